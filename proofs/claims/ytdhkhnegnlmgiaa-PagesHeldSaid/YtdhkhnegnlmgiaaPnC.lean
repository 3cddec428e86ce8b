/- Package pages: with, Bring, Set, Map, Out, Back. Package pages: Bring, Set, Map, Out. Package pages: Bring, Out. Package pages: Back. -/
import Derived.Test.YtdhkhnegnlmgiaaPnB
namespace Go.Proofs.Ytdhkhnegnlmgiaa
open Go.AI
set_option maxHeartbeats 2000000
set_option maxRecDepth 100000
set_option linter.unusedSimpArgs false
set_option linter.unusedVariables false
attribute [local simp] wpA wpX RunA RunD runF foot footP footB idsA bare apart runL step1 gsel_f gsel_t gsel_s res_same res_and1 res_and2 res_and3 res_and4 res_and5 res_and6 res_false res_true res_v res_ptr res_fptr res_osl res_xsl soft aAppendZ aCap ovlI ovlJ res_fsl res_esl res_agg res_tup res_fn res_junk res_anyb aPick hk imp_left iteV dstOk guardOk astep astepE AI.ev AI.look AI.put envOf aBox cellsOf allOne allOneA oneA Value.oneCell' Value.cells newObj' aFieldAddr aLoad obj readAt thenA blockA condA retA resA tupA view hot hotC hotR depthV cAgg cInt cBool mkAgg allV aAlloc aBuild fillA writeAt aStore isAggA aField idx aIndexAddr aIndex bnd aSlice aExtract aLen aBuiltin aCall isStatic eqAgg eqTy eqC ev_add ev_sub ev_mul ev_quo ev_rem ev_and ev_or ev_xor ev_andNot ev_shl ev_shr ev_eql ev_neq ev_lss ev_leq ev_gtr ev_geq ev_agg w64 wu32 wu8 ev_not ev_neg Cod.plain RCod.plain argM finM cold coldC coldR goInt intDec boolDec aggDec Weaker heapW lowA lowC Again slDec undef aBuildSlice setRows aAppend rowsOf aMakeSlice aClear aCopy softer_self softer_nil valsOf ev_min2 ev_max2 hotR_set hotR_append take_map_set irow_cold irow_mapM irow_mapMc irow_view irow_viewc irow_hotR irow_ren irow_renc irow_low WeakT heapT thOf ren renC AgainT NextF NextT fnDec cFn rNil selfLt natLt0 natLt1 getLastMap frame0 frame1 own0 own1 argG finG tau tauI tauO tauC bareA bareC bareH irow_tau irow_tauc irow_bare irow_flat irow_bareR ownA_nil ownT_nil ownA_c ownT_c ownA_s ownT_s takeMapLen footC plainA noId noIdC cloneF frame0F frame1F insertF replaceI replaceF cellDec rCell fpDec cFp rTwo deleteF allV_oA oneA_oA res_oA RunR RunE runFT footAt hotR_cat tmodN fxSz2 fxBy2 fxAg2 fxZe2 fxSl2 fxAr2 fxPl2 fxSz3 fxBy3 fxAg3 fxZe3 fxSl3 fxAr3 fxPl3 fxSz4 fxBy4 fxAg4 fxZe4 fxSl4 fxAr4 fxPl4 fxSz5 fxBy5 fxAg5 fxZe5 fxSl5 fxAr5 fxPl5 fxSz9 fxBy9 fxAg9 fxZe9 fxSl9 fxAr9 fxPl9 fxSz12 fxBy12 fxAg12 fxZe12 fxSl12 fxAr12 fxPl12 fxSz13 fxBy13 fxAg13 fxZe13 fxSl13 fxAr13 fxFi13x0 fxFi13x1 fxPl13 fxSz21 fxBy21 fxAg21 fxZe21 fxSl21 fxAr21 fxPl21 fxSz22 fxBy22 fxAg22 fxZe22 fxSl22 fxAr22 fxPl22 fxSz23 fxBy23 fxAg23 fxZe23 fxSl23 fxAr23 fxFi23x0 fxFi23x1 fxPl23 fxSz24 fxBy24 fxAg24 fxZe24 fxSl24 fxAr24 fxFi24x0 fxFi24x1 fxPl24 fxSz26 fxBy26 fxAg26 fxZe26 fxSl26 fxAr26 fxPl26 fxSz28 fxBy28 fxAg28 fxZe28 fxSl28 fxAr28 fxPl28 fxSz29 fxBy29 fxAg29 fxZe29 fxSl29 fxAr29 fxFi29x0 fxFi29x1 fxFi29x2 fxFi29x3 fxFi29x4 fxPl29 fxSz30 fxBy30 fxAg30 fxZe30 fxSl30 fxAr30 fxFi30x0 fxFi30x1 fxFi30x2 fxFi30x3 fxFi30x4 fxPl30 fxSz48 fxBy48 fxAg48 fxZe48 fxSl48 fxAr48 fxPl48 fxSz49 fxBy49 fxAg49 fxZe49 fxSl49 fxAr49 fxPl49 fxSz53 fxBy53 fxAg53 fxZe53 fxSl53 fxAr53 fxFi53x0 fxFi53x1 fxFi53x2 fxFi53x3 fxPl53 fxSz54 fxBy54 fxAg54 fxZe54 fxSl54 fxAr54 fxFi54x0 fxFi54x1 fxFi54x2 fxFi54x3 fxPl54 fxSz59 fxBy59 fxAg59 fxZe59 fxSl59 fxAr59 fxPl59 fxSz63 fxBy63 fxAg63 fxZe63 fxSl63 fxAr63 fxPl63 fxSz68 fxBy68 fxAg68 fxZe68 fxSl68 fxAr68 fxPl68 fxSz75 fxBy75 fxAg75 fxZe75 fxSl75 fxAr75 fxPl75 fxSz90 fxBy90 fxAg90 fxZe90 fxSl90 fxAr90 fxFi90x0 fxFi90x1 fxFi90x2 fxPl90 fxSz91 fxBy91 fxAg91 fxZe91 fxSl91 fxAr91 fxFi91x0 fxFi91x1 fxFi91x2 fxPl91 fxSz96 fxBy96 fxAg96 fxZe96 fxSl96 fxAr96 fxPl96 fxSz108 fxBy108 fxAg108 fxZe108 fxSl108 fxAr108 fxPl108 fxSz115 fxBy115 fxAg115 fxZe115 fxSl115 fxAr115 fxPl115 fxSz117 fxBy117 fxAg117 fxZe117 fxSl117 fxAr117 fxPl117 fxSz124 fxBy124 fxAg124 fxZe124 fxSl124 fxAr124 fxPl124 fxSz128 fxBy128 fxAg128 fxZe128 fxSl128 fxAr128 fxPl128 fxSz133 fxBy133 fxAg133 fxZe133 fxSl133 fxAr133 fxPl133 fxSz140 fxBy140 fxAg140 fxZe140 fxSl140 fxAr140 fxPl140 fxSz141 fxBy141 fxAg141 fxZe141 fxSl141 fxAr141 fxFi141x0 fxPl141 fxSz147 fxBy147 fxAg147 fxZe147 fxSl147 fxAr147 fxPl147 fxSz152 fxBy152 fxAg152 fxZe152 fxSl152 fxAr152 fxPl152 fxEq28 fxEq30 fxEq54 fxEq91 fxCv2x2 fxCv2x3 fxCv2x5 fxCv2x12 fxCv2x21 fxCv2x26 fxCv2x96 fxCv2x108 fxCv2x115 fxCv2x117 fxCv2x124 fxCv3x2 fxCv3x3 fxCv3x5 fxCv3x12 fxCv3x21 fxCv3x26 fxCv3x96 fxCv3x108 fxCv3x115 fxCv3x117 fxCv3x124 fxCv5x2 fxCv5x3 fxCv5x5 fxCv5x12 fxCv5x21 fxCv5x26 fxCv5x96 fxCv5x108 fxCv5x115 fxCv5x117 fxCv5x124 fxCv12x2 fxCv12x3 fxCv12x5 fxCv12x12 fxCv12x21 fxCv12x26 fxCv12x96 fxCv12x108 fxCv12x115 fxCv12x117 fxCv12x124 fxCv21x2 fxCv21x3 fxCv21x5 fxCv21x12 fxCv21x21 fxCv21x26 fxCv21x96 fxCv21x108 fxCv21x115 fxCv21x117 fxCv21x124 fxCv26x2 fxCv26x3 fxCv26x5 fxCv26x12 fxCv26x21 fxCv26x26 fxCv26x96 fxCv26x108 fxCv26x115 fxCv26x117 fxCv26x124 fxCv96x2 fxCv96x3 fxCv96x5 fxCv96x12 fxCv96x21 fxCv96x26 fxCv96x96 fxCv96x108 fxCv96x115 fxCv96x117 fxCv96x124 fxCv108x2 fxCv108x3 fxCv108x5 fxCv108x12 fxCv108x21 fxCv108x26 fxCv108x96 fxCv108x108 fxCv108x115 fxCv108x117 fxCv108x124 fxCv115x2 fxCv115x3 fxCv115x5 fxCv115x12 fxCv115x21 fxCv115x26 fxCv115x96 fxCv115x108 fxCv115x115 fxCv115x117 fxCv115x124 fxCv117x2 fxCv117x3 fxCv117x5 fxCv117x12 fxCv117x21 fxCv117x26 fxCv117x96 fxCv117x108 fxCv117x115 fxCv117x117 fxCv117x124 fxCv124x2 fxCv124x3 fxCv124x5 fxCv124x12 fxCv124x21 fxCv124x26 fxCv124x96 fxCv124x108 fxCv124x115 fxCv124x117 fxCv124x124 fxEb4 fxNb4 fxLt9 fxLn22 fxNe22 fxNn22 fxOe22 fxOn22 fxXe22 fxXn22 fxLn48 fxNe48 fxNn48 fxOe48 fxOn48 fxXe48 fxXn48 fxLn49 fxNe49 fxNn49 fxOe49 fxOn49 fxXe49 fxXn49 fxLn59 fxNe59 fxNn59 fxOe59 fxOn59 fxXe59 fxXn59 fxLn63 fxNe63 fxNn63 fxOe63 fxOn63 fxXe63 fxXn63 fxLn75 fxNe75 fxNn75 fxOe75 fxOn75 fxXe75 fxXn75 fxFn3 fxFm3 fxFb3 fxFi3 fxFj3 fxFn4 fxFm4 fxFb4 fxFi4 fxFj4 fxFn5 fxFm5 fxFb5 fxFi5 fxFj5 fxFn6 fxFm6 fxFb6 fxFi6 fxFj6 fxFn7 fxFm7 fxFb7 fxFi7 fxFj7 fxFn8 fxFm8 fxFb8 fxFi8 fxFj8 fxFn9 fxFm9 fxFb9 fxFi9 fxFj9 fxFn10 fxFm10 fxFb10 fxFi10 fxFj10 fxFn11 fxFm11 fxFb11 fxFi11 fxFj11 fxFn12 fxFm12 fxFb12 fxFi12 fxFj12 fxFn13 fxFm13 fxFb13 fxFi13 fxFj13 fxFn14 fxFm14 fxFb14 fxFi14 fxFj14 fxFn15 fxFm15 fxFb15 fxFi15 fxFj15 fxFn16 fxFm16 fxFb16 fxFi16 fxFj16 fxFn17 fxFm17 fxFb17 fxFi17 fxFj17 fxFn18 fxFm18 fxFb18 fxFi18 fxFj18 fxFn19 fxFm19 fxFb19 fxFi19 fxFj19 fxFn20 fxFm20 fxFb20 fxFi20 fxFj20 fxFn21 fxFm21 fxFb21 fxFi21 fxFj21 fxFn22 fxFm22 fxFb22 fxFi22 fxFj22 fxFn23 fxFm23 fxFb23 fxFi23 fxFj23 fxFn24 fxFm24 fxFb24 fxFi24 fxFj24 fxFn25 fxFm25 fxFb25 fxFi25 fxFj25 fxFn26 fxFm26 fxFb26 fxFi26 fxFj26 fxFn27 fxFm27 fxFb27 fxFi27 fxFj27 fxFn28 fxFm28 fxFb28 fxFi28 fxFj28 fxFn29 fxFm29 fxFb29 fxFi29 fxFj29 fxFn30 fxFm30 fxFb30 fxFi30 fxFj30 fxFn31 fxFm31 fxFb31 fxFi31 fxFj31 fxFn32 fxFm32 fxFb32 fxFi32 fxFj32 fxFn33 fxFm33 fxFb33 fxFi33 fxFj33 fxFn34 fxFm34 fxFb34 fxFi34 fxFj34 fxFn35 fxFm35 fxFb35 fxFi35 fxFj35 fxFn36 fxFm36 fxFb36 fxFi36 fxFj36 fxFn37 fxFm37 fxFb37 fxFi37 fxFj37 fxFn38 fxFm38 fxFb38 fxFi38 fxFj38 fxFn39 fxFm39 fxFb39 fxFi39 fxFj39 fxFn40 fxFm40 fxFb40 fxFi40 fxFj40 fxFn41 fxFm41 fxFb41 fxFi41 fxFj41 fxFn42 fxFm42 fxFb42 fxFi42 fxFj42 fxFn43 fxFm43 fxFb43 fxFi43 fxFj43 fxFn44 fxFm44 fxFb44 fxFi44 fxFj44 fxFn45 fxFm45 fxFb45 fxFi45 fxFj45 fxFn46 fxFm46 fxFb46 fxFi46 fxFj46 fxFn47 fxFm47 fxFb47 fxFi47 fxFj47 fxFn48 fxFm48 fxFb48 fxFi48 fxFj48 fxFn49 fxFm49 fxFb49 fxFi49 fxFj49 fxFn50 fxFm50 fxFb50 fxFi50 fxFj50 fxFn51 fxFm51 fxFb51 fxFi51 fxFj51 fxFn52 fxFm52 fxFb52 fxFi52 fxFj52 fxFn53 fxFm53 fxFb53 fxFi53 fxFj53 fxFn54 fxFm54 fxFb54 fxFi54 fxFj54 fxFn55 fxFm55 fxFb55 fxFi55 fxFj55 fxFn56 fxFm56 fxFb56 fxFi56 fxFj56 fxFn57 fxFm57 fxFb57 fxFi57 fxFj57 fxFn58 fxFm58 fxFb58 fxFi58 fxFj58 fxFn59 fxFm59 fxFb59 fxFi59 fxFj59 fxFn60 fxFm60 fxFn61 fxFm61 fxFb61 fxFi61 fxFj61 fxFn62 fxFm62 fxFb62 fxFi62 fxFj62 fxFn63 fxFm63 fxFb63 fxFi63 fxFj63 fxFn64 fxFm64 fxFb64 fxFi64 fxFj64 fxFn65 fxFm65 fxFb65 fxFi65 fxFj65 fxFn66 fxFm66 fxFb66 fxFi66 fxFj66 fxFn67 fxFm67 fxFb67 fxFi67 fxFj67 fxFn68 fxFm68 fxFb68 fxFi68 fxFj68 fxFn69 fxFm69 fxFb69 fxFi69 fxFj69 fxFn70 fxFm70 fxFb70 fxFi70 fxFj70 fxFn71 fxFm71 fxFb71 fxFi71 fxFj71 fxFn72 fxFm72 fxFb72 fxFi72 fxFj72 fxFn73 fxFm73 fxFb73 fxFi73 fxFj73 fxFn74 fxFm74 fxFb74 fxFi74 fxFj74 fxFn75 fxFm75 fxFb75 fxFi75 fxFj75 fxFn76 fxFm76 fxFb76 fxFi76 fxFj76 fxFn77 fxFm77 fxFb77 fxFi77 fxFj77 fxFn78 fxFm78 fxFb78 fxFi78 fxFj78 fxFn79 fxFm79 fxFb79 fxFi79 fxFj79 fxFn80 fxFm80 fxFb80 fxFi80 fxFj80 fxFn81 fxFm81 fxFb81 fxFi81 fxFj81 fxFn82 fxFm82 fxFb82 fxFi82 fxFj82 fxFn83 fxFm83 fxFb83 fxFi83 fxFj83 fxFn84 fxFm84 fxFb84 fxFi84 fxFj84 fxFn85 fxFm85 fxFb85 fxFi85 fxFj85 fxFn86 fxFm86 fxFb86 fxFi86 fxFj86 fxFn87 fxFm87 fxFb87 fxFi87 fxFj87 fxFn88 fxFm88 fxFb88 fxFi88 fxFj88 fxFn89 fxFm89 fxFb89 fxFi89 fxFj89 fxFn90 fxFm90 fxFb90 fxFi90 fxFj90 fxFn91 fxFm91 fxFb91 fxFi91 fxFj91 fxFn92 fxFm92 fxFb92 fxFi92 fxFj92 fxFn93 fxFm93 fxFb93 fxFi93 fxFj93 fxFn94 fxFm94 fxFb94 fxFi94 fxFj94 fxFn95 fxFm95 fxFb95 fxFi95 fxFj95 fxFn96 fxFm96 fxFb96 fxFi96 fxFj96 fxFn97 fxFm97 fxFb97 fxFi97 fxFj97 fxFn98 fxFm98 fxFb98 fxFi98 fxFj98 fxFn99 fxFm99 fxFb99 fxFi99 fxFj99 fxFn100 fxFm100 fxFb100 fxFi100 fxFj100 fxFn101 fxFm101 fxFb101 fxFi101 fxFj101
attribute [local simp] Pg.eta Pg.cold Pg.mapM Pg.mapMc Pg.view Pg.viewc Pg.hotR Pg.ren Pg.renc Pg.low Pg.tau Pg.tauc Pg.bare Pg.flat Pg.flat1 Pg.mapMt Pg.mapMd Pg.coldt Pg.coldd Pg.hotRt Pg.hotRd
attribute [local simp] Pp.eta Pp.cold Pp.mapM Pp.mapMc Pp.view Pp.viewc Pp.hotR Pp.ren Pp.renc Pp.low Pp.tau Pp.tauc Pp.bare Pp.flat Pp.flat1 Pp.mapMt Pp.mapMd Pp.coldt Pp.coldd Pp.hotRt Pp.hotRd
attribute [local simp] Ca.eta Ca.dec_row Ca.dec_hrow Ca.cold Ca.hcold Ca.mapM Ca.mapMc Ca.hmapM Ca.hmapMc Ca.view Ca.viewc Ca.hview Ca.hviewc Ca.hotR Ca.ren Ca.renc Ca.low Ca.hlow
theorem clPp : InlOk Try.prog 36 (cloneI 20) := by
  refine inl_soft Try.func36 rfl ?_
  intro args H r H' hr
  rcases cloneI_some hr with ⟨o, rows, rfl, hl, hc⟩ | ⟨id, st, k, kc, rows, rfl, hob, hle, hl, hc⟩ | ⟨rfl, rfl, rfl⟩
  · refine ⟨by simp [Try.ntmps36], wpA_sound noOrc_ok fxMix _ _ _ _ (by kernel_rfl) ?_⟩
    rcases hc with ⟨rfl, rfl, rfl⟩ | ⟨h0, rfl, rfl⟩
    · simp [Try.ntmps36, Try.results36, noOrc]
    · simp [Try.ntmps36, Try.results36, h0, hl, noOrc]
  · refine ⟨by simp [Try.ntmps36], wpA_sound noOrc_ok fxMix _ _ _ _ (by kernel_rfl) ?_⟩
    have hob' := obj_get hob
    have e1 : min k (rows.length - st) = k := by omega
    have e2 : st + k ≤ rows.length := hle
    have e3 : st ≤ rows.length := by omega
    rcases hc with ⟨rfl, rfl, rfl⟩ | ⟨h0, rfl, rfl⟩
    · simp [Try.ntmps36, Try.results36, noOrc, hob', e2, e3]
    · simp [Try.ntmps36, Try.results36, hl, noOrc, hob', e1, e2, h0]
  · refine ⟨by simp [Try.ntmps36], wpA_sound noOrc_ok fxMix _ _ _ _ (by kernel_rfl) ?_⟩
    simp [Try.ntmps36, Try.results36, noOrc]
theorem insPpOv : InlOk Try.prog 60 ovlI := ovl_inl (t := 22) (r := 4) Try.func60 (by kernel_rfl) (by kernel_rfl) (by kernel_rfl) (by kernel_rfl) Try.underlying22 (sz := 20) (by kernel_rfl)
theorem insPp : InlOk Try.prog 43 (insertI 20) := by
  have hC := (noOrc_ok (P := Try.prog)).withI insPpOv
  refine insert_of Try.func43 rfl (by simp [Try.ntmps43]) ?_ ?_ ?_ ?_
  · intro H vid vr h1
    refine wpA_sound hC fxMix _ _ _ _ (by kernel_rfl) ?_
    have h1' := obj_get h1
    simp [Try.ntmps43, Try.results43, noOrc, Orc.withI, h1']
  · intro H id vid rows vr h1 h2 h3 h5
    refine wpA_sound hC fxMix _ _ _ _ (by kernel_rfl) ?_
    have h1' := obj_get h1
    have h2' := obj_get h2
    have h6 : ¬ (rows.length + 1 ≤ rows.length) := by omega
    have h7 : rows.length ≤ 4294967295 := by omega
    simp [Try.ntmps43, Try.results43, noOrc, Orc.withI, h1', h2', h6, h7]
  · intro H id vid i rows vr h1 h2 h3 h4 h5 h6 h7
    refine wpA_sound hC fxMix _ _ _ _ (by kernel_rfl) ?_
    have h1' := obj_get h1
    have h2' := obj_get h2
    have w1 : IntKind.i64.wrap ((rows.length : Int) + 1) = ((rows.length + 1 : Nat) : Int) := by rw [w64 (by omega) (by omega)]; simp
    obtain ⟨k, hk⟩ : ∃ k, k = rows.length + 1 - i := ⟨_, rfl⟩
    have w2 : IntKind.i64.wrap ((rows.length : Int) + 1 - i) = (k : Int) := by rw [w64 (by omega) (by omega)]; omega
    have w3 : IntKind.i64.wrap ((i : Int) + 1) = ((i + 1 : Nat) : Int) := by rw [w64 (by omega) (by omega)]; simp
    have h8 : ¬ i = rows.length := by omega
    have g1 := (List.getElem?_eq_some_iff.1 h1').2
    have g2 := (List.getElem?_eq_some_iff.1 h2').2
    have b1 : ¬ (i : Int) = rows.length := by omega
    have b2 : ¬ (rows.length : Int) = i := by omega
    have e1 : ∀ l, (H ++ l)[vid]? = some (some (20, [vr])) := by intro l; rw [List.getElem?_append_left h5, h2']
    have e2 : ∀ l, (H ++ l)[id]? = some (some (20, rows)) := by intro l; rw [List.getElem?_append_left h4, h1']
    have d0 : ¬ vid = id := fun h => h3 h.symm
    have d1 : 0 < rows.length - i := by omega
    have d2 : min 1 (rows.length + 1 - i) = 1 := by omega
    have d3 : List.take (rows.length + 1 - i) [vr] = [vr] := List.take_of_length_le (by simp; omega)
    have d4 : rows.length - i ≤ rows.length + 1 - (i + 1) := by omega
    have d5 : min (rows.length - i) (rows.length + 1 - (i + 1)) = rows.length - i := by omega
    have d6 : i + 1 + (rows.length - i) ≤ i + (rows.length - i + 1) := by omega
    have d7 : i + 1 + (rows.length - i) ≤ rows.length + 1 := by omega
    have d8 : min (i + 1) rows.length = i + 1 := by omega
    have d9 : rows.length + 1 ≤ i + 1 + (rows.length - i) := by omega
    have f1 : ∀ X, List.take (i + 1) (List.take i rows ++ vr :: X) = List.take i rows ++ [vr] := by
      intro X
      have hl : (List.take i rows).length = i := by simp; omega
      rw [List.take_append, hl, List.take_of_length_le (by omega)]; simp
    have f2 : List.take (rows.length - i) (List.drop i rows) = List.drop i rows := List.take_of_length_le (by simp)
    have f7 : ∀ X, List.take i (List.take (i + 1) rows ++ X) = List.take i rows := by intro X; rw [List.take_append_of_le_length (by simp; omega), List.take_take]; congr 1; omega
    have f8 : ∀ X, List.drop (i + 1) (List.take (i + 1) rows ++ X) = X := by intro X; rw [List.drop_append_of_le_length (by simp; omega), List.drop_eq_nil_of_le (by simp; omega)]; rfl
    have c1 : (i : Int) ≤ rows.length + 1 := by omega
    have c2 : 0 ≤ (rows.length : Int) + 1 := by omega
    have c3 : (i : Int) + 1 ≤ rows.length + 1 := by omega
    have c4 : 0 ≤ (i : Int) + 1 := by omega
    have c5 : i + 1 ≤ rows.length + 1 := by omega
    have c6 : i + (rows.length + 1 - i) = rows.length + 1 := by omega
    have c7 : i + 1 + (rows.length + 1 - (i + 1)) = rows.length + 1 := by omega
    have a1 : i ≤ rows.length := by omega
    have a2 : i + k = rows.length + 1 := by omega
    have a3 : rows.length < rows.length + 1 := by omega
    have a4 : rows.length + 1 ≤ 4294967296 := by omega
    have a5 : i ≤ rows.length + 1 := by omega
    have a6 : min i rows.length = i := by omega
    have f3 : ∀ (z : Row), List.drop (i + 1 + (rows.length - i)) (List.take i rows ++ vr :: List.drop (i + 1) (List.take i rows ++ List.replicate k z)) = [] := by intro z; apply List.drop_eq_nil_of_le; simp; omega
    simp [Try.ntmps43, Try.results43, noOrc, Orc.withI, h1', h2', w1, w2, w3, h8, h4, h5, g1, g2, e1, e2, d0, d1, d2, d3, d4, d5, d6, d7, d8, d9, f1, f2, f3,  b1, b2, c1, c2, c3, c4, c5, c6, c7, a1, a2, a3, a4, a5, a6]
  · intro H id vid i cap rows vr jr h1 h2 h3 h4 h5 h6 h7 h8
    refine wpA_sound hC fxMix _ _ _ _ (by kernel_rfl) ?_
    have h1' := obj_get h1
    have h2' := obj_get h2
    have w1 : IntKind.i64.wrap ((rows.length : Int) + 1) = ((rows.length + 1 : Nat) : Int) := by rw [w64 (by omega) (by omega)]; simp
    have w3 : IntKind.i64.wrap ((i : Int) + 1) = ((i + 1 : Nat) : Int) := by rw [w64 (by omega) (by omega)]; simp
    have h9 : ¬ i = rows.length := by omega
    have g1 := (List.getElem?_eq_some_iff.1 h1').2
    have g2 := (List.getElem?_eq_some_iff.1 h2').2
    have b1 : ¬ (i : Int) = rows.length := by omega
    have b2 : ¬ (rows.length : Int) = i := by omega
    have e1 : ∀ l, (H ++ l)[vid]? = some (some (20, [vr])) := by intro l; rw [List.getElem?_append_left h5, h2']
    have e2 : ∀ l, (H ++ l)[id]? = some (some (20, rows ++ [jr])) := by intro l; rw [List.getElem?_append_left h4, h1']
    have d0 : ¬ vid = id := fun h => h3 h.symm
    have d1 : 0 < rows.length - i := by omega
    have d2 : min 1 (rows.length + 1 - i) = 1 := by omega
    have d3 : List.take (rows.length + 1 - i) [vr] = [vr] := List.take_of_length_le (by simp; omega)
    have d4 : rows.length - i ≤ rows.length + 1 - (i + 1) := by omega
    have d5 : min (rows.length - i) (rows.length + 1 - (i + 1)) = rows.length - i := by omega
    have d6 : i + 1 + (rows.length - i) ≤ i + (rows.length - i + 1) := by omega
    have d7 : i + 1 + (rows.length - i) ≤ rows.length + 1 := by omega
    have d8 : min (i + 1) rows.length = i + 1 := by omega
    have d9 : rows.length + 1 ≤ i + 1 + (rows.length - i) := by omega
    have f1 : ∀ X, List.take (i + 1) (List.take i rows ++ vr :: X) = List.take i rows ++ [vr] := by
      intro X
      have hl : (List.take i rows).length = i := by simp; omega
      rw [List.take_append, hl, List.take_of_length_le (by omega)]; simp
    have f2 : List.take (rows.length - i) (List.drop i rows) = List.drop i rows := List.take_of_length_le (by simp)
    have f7 : ∀ X, List.take i (List.take (i + 1) rows ++ X) = List.take i rows := by intro X; rw [List.take_append_of_le_length (by simp; omega), List.take_take]; congr 1; omega
    have f8 : ∀ X, List.drop (i + 1) (List.take (i + 1) rows ++ X) = X := by intro X; rw [List.drop_append_of_le_length (by simp; omega), List.drop_eq_nil_of_le (by simp; omega)]; rfl
    have c1 : (i : Int) ≤ rows.length + 1 := by omega
    have c2 : 0 ≤ (rows.length : Int) + 1 := by omega
    have c3 : (i : Int) + 1 ≤ rows.length + 1 := by omega
    have c4 : 0 ≤ (i : Int) + 1 := by omega
    have c5 : i + 1 ≤ rows.length + 1 := by omega
    have c6 : i + (rows.length + 1 - i) = rows.length + 1 := by omega
    have c7 : i + 1 + (rows.length + 1 - (i + 1)) = rows.length + 1 := by omega
    have a1 : i ≤ rows.length := by omega
    have a3 : ¬ cap < rows.length + 1 := by omega
    have a5 : i ≤ rows.length + 1 := by omega
    have a6 : min i rows.length = i := by omega
    have a7 : (rows.length : Int) + 1 ≤ cap := by omega
    have b3 : ¬ (cap : Int) < rows.length + 1 := by omega
    have a8 : i ≤ cap := by omega
    have f4 : List.take (rows.length - i) (List.take (rows.length + 1 - i) (List.drop i (rows ++ [jr]))) = List.drop i rows := by
      rw [List.take_take, List.drop_append_of_le_length a1, List.take_append_of_le_length (by simp; omega), List.take_of_length_le (by simp; omega)]
    have f5 : List.drop (i + 1 + (rows.length - i)) (rows ++ [jr]) = [] := List.drop_eq_nil_of_le (by simp; omega)
    have f6 : List.take (i + 1) (rows ++ [jr]) = List.take (i + 1) rows := List.take_append_of_le_length (by omega)
    simp [Try.ntmps43, Try.results43, noOrc, Orc.withI, h1', h2', w1, w3, h9, h4, h5, g1, g2, e1, e2, d0, d1, d2, d3, d4, d5, d6, d7, d8, d9, f2, f4, f5, f6, f7, f8, h3, List.getElem_set_ne,  b1, b2, c1, c2, c3, c4, c5, c6, c7, a1, a3, a5, a6, a7, a8, b3]

theorem delPp : InlOk Try.prog 39 (deleteI 20) := by
  refine delete_of (z := [.v (.int .i64 0), .v (.int .i64 0), .v (.int .i64 0), .v (.int .i64 0), .v (.int .u8 0), .v (.int .u8 0), .v (.int .u8 0), .v (.int .u8 0), .v (.int .u8 0), .v (.int .u8 0), .v (.int .u8 0), .v (.int .u8 0), .v (.int .u8 0), .v (.int .u8 0), .v (.int .u8 0), .v (.int .u8 0), .v (.int .u8 0), .v (.int .u8 0), .v (.int .u8 0), .v (.int .u8 0)]) Try.func39 rfl (by simp [Try.ntmps39]) ?_
  intro H id i rows h1 h2 h3 h4
  refine wpA_sound noOrc_ok fxMix _ _ _ _ (by kernel_rfl) ?_
  have h1' := obj_get h1
  have g1 := (List.getElem?_eq_some_iff.1 h1').2
  have c1 : (i : Int) + 1 ≤ rows.length := by omega
  have c2 : 0 ≤ (i : Int) + 1 := by omega
  have c3 : (i : Int) ≤ i + 1 := by omega
  have c4 : i ≤ rows.length := by omega
  have c5 : i + 1 ≤ rows.length := by omega
  have c6 : i + 1 + (rows.length - (i + 1)) ≤ rows.length := by omega
  have c7 : i + (rows.length - (i + 1)) ≤ rows.length := by omega
  have c8 : i + (rows.length - (i + 1)) = rows.length - 1 := by omega
  have c9 : rows.length - 1 ≤ rows.length := by omega
  have d1 : ¬ ((i : Int) = i + 1) := by omega
  have d2 : List.take (rows.length - (i + 1)) (List.drop (i + 1) rows) = List.drop (i + 1) rows := List.take_of_length_le (by simp)
  have d3 : rows.length - (rows.length - 1) = 1 := by omega
  have d4 : (rows.length - 1) + 1 = rows.length := by omega
  have d5 : ¬ rows.length = i := by omega
  have d6 : ¬ rows.length = 0 := by omega
  have d7 : rows.length ≤ 4294967296 := by omega
  have d8 : i + (rows.length - (i + 1)) ≤ 4294967296 := by omega
  have f1 : rows.length ≤ 4294967297 := by omega
  have f2 : rows.length ≤ i + (rows.length - (i + 1) + 1) := by omega
  have d9 : ∀ X : List Row, List.take (rows.length - 1) (List.take i rows ++ (List.drop (i + 1) rows ++ X)) = List.take i rows ++ List.drop (i + 1) rows := by
    intro X
    rw [← List.append_assoc, List.take_append_of_le_length (by simp; omega), List.take_of_length_le (by simp; omega)]
  have e1 : List.drop rows.length (List.take i rows ++ (List.drop (i + 1) rows ++ List.drop (rows.length - 1) rows)) = [] := List.drop_eq_nil_of_le (by simp; omega)
  have e2 : rows.length - 1 ≤ i + (rows.length - (i + 1) + 1) := by omega
  have e3 : min i rows.length = i := by omega
  have e4 : ((rows.length - 1 : Nat) : Int) ≤ rows.length := by omega
  simp [Try.ntmps39, Try.results39, noOrc, h1', h2, h3, g1, c1, c2, c3, c4, c5, c6, c7, c8, c9, d1, d2, d3, d4, d5, d6, d7, d8, d9, e1, e2, e3, e4, f1, f2]
def caV (l : List Pp) (T : Int) : AVal := .agg [.fsl true 20 (l.map Pp.row), .v (.int .i64 T)]
def caE : Except Int Ca → AVal
  | .ok c => .tup [caV c.pages c.clock, .v (.int .i64 0)]
  | .error e => .v (.tuple #[.agg #[.slice none 0 0, .int .i64 0], .int .i64 e])
theorem with_pure : PureOk Try.prog 37 (argM (cAgg rCa) fun c => argM (cInt .i64) fun i => argM (cAgg rPp) fun p => finM (if (0 ≤ i ∧ i < c.pages.length) ∧ c.pages.length ≤ 64 then some (caV (c.pages.set i.toNat p) c.clock) else none)) := by
  refine pure3 Try.func37 rfl ?_
  rintro c i p r hr
  by_cases hc : (0 ≤ i ∧ i < c.pages.length) ∧ c.pages.length ≤ 64
  case neg => rw [if_neg hc] at hr; cases hr
  rw [if_pos hc] at hr
  simp only [Option.some.injEq] at hr
  subst hr
  refine body_gen (noOrc_ok.withIF clPp clone_loc) fxMix (by kernel_rfl) (by simp [Try.ntmps37]) ?_
  intro C cP cI cN cD cF cA
  have cn0 := orcI clPp (C := C) (by rw [cN]; rfl)
  replace cI := fun g => congrFun cI g
  simp only [Orc.withP, Orc.withI, Orc.withF, Orc.withD, Orc.withA, noOrc] at cI
  replace cD : C.dyn = fun _ => [] := cD
  clear cP cN cF cA
  obtain ⟨⟨h1, h2⟩, h3⟩ := hc
  obtain ⟨l, T⟩ := c
  simp only at h2 h3 ⊢
  obtain ⟨k, rfl⟩ := Int.eq_ofNat_of_zero_le h1
  have hk : k < l.length := by omega
  have hne : ¬ l = [] := by intro h; subst h; simp at hk
  have hl : l.length ≤ 4294967296 := by omega
  simp [Try.ntmps37, Try.results37, cSl, cn0, cI, cD, rCa, caDec, Ca.row, rPp, Pp.row, ppDec, cloneI, hne, hl, hk, caV]
  done
end Go.Proofs.Ytdhkhnegnlmgiaa
namespace Go.Proofs.Ytdhkhnegnlmgiaa
open Go.AI
set_option maxHeartbeats 2000000
set_option maxRecDepth 100000
set_option linter.unusedSimpArgs false
set_option linter.unusedVariables false
attribute [local simp] wpA wpX RunA RunD runF foot footP footB idsA bare apart runL step1 gsel_f gsel_t gsel_s res_same res_and1 res_and2 res_and3 res_and4 res_and5 res_and6 res_false res_true res_v res_ptr res_fptr res_osl res_xsl soft aAppendZ aCap ovlI ovlJ res_fsl res_esl res_agg res_tup res_fn res_junk res_anyb aPick hk imp_left iteV dstOk guardOk astep astepE AI.ev AI.look AI.put envOf aBox cellsOf allOne allOneA oneA Value.oneCell' Value.cells newObj' aFieldAddr aLoad obj readAt thenA blockA condA retA resA tupA view hot hotC hotR depthV cAgg cInt cBool mkAgg allV aAlloc aBuild fillA writeAt aStore isAggA aField idx aIndexAddr aIndex bnd aSlice aExtract aLen aBuiltin aCall isStatic eqAgg eqTy eqC ev_add ev_sub ev_mul ev_quo ev_rem ev_and ev_or ev_xor ev_andNot ev_shl ev_shr ev_eql ev_neq ev_lss ev_leq ev_gtr ev_geq ev_agg w64 wu32 wu8 ev_not ev_neg Cod.plain RCod.plain argM finM cold coldC coldR goInt intDec boolDec aggDec Weaker heapW lowA lowC Again slDec undef aBuildSlice setRows aAppend rowsOf aMakeSlice aClear aCopy softer_self softer_nil valsOf ev_min2 ev_max2 hotR_set hotR_append take_map_set irow_cold irow_mapM irow_mapMc irow_view irow_viewc irow_hotR irow_ren irow_renc irow_low WeakT heapT thOf ren renC AgainT NextF NextT fnDec cFn rNil selfLt natLt0 natLt1 getLastMap frame0 frame1 own0 own1 argG finG tau tauI tauO tauC bareA bareC bareH irow_tau irow_tauc irow_bare irow_flat irow_bareR ownA_nil ownT_nil ownA_c ownT_c ownA_s ownT_s takeMapLen footC plainA noId noIdC cloneF frame0F frame1F insertF replaceI replaceF cellDec rCell fpDec cFp rTwo deleteF allV_oA oneA_oA res_oA RunR RunE runFT footAt hotR_cat tmodN fxSz2 fxBy2 fxAg2 fxZe2 fxSl2 fxAr2 fxPl2 fxSz3 fxBy3 fxAg3 fxZe3 fxSl3 fxAr3 fxPl3 fxSz4 fxBy4 fxAg4 fxZe4 fxSl4 fxAr4 fxPl4 fxSz5 fxBy5 fxAg5 fxZe5 fxSl5 fxAr5 fxPl5 fxSz9 fxBy9 fxAg9 fxZe9 fxSl9 fxAr9 fxPl9 fxSz12 fxBy12 fxAg12 fxZe12 fxSl12 fxAr12 fxPl12 fxSz13 fxBy13 fxAg13 fxZe13 fxSl13 fxAr13 fxFi13x0 fxFi13x1 fxPl13 fxSz21 fxBy21 fxAg21 fxZe21 fxSl21 fxAr21 fxPl21 fxSz22 fxBy22 fxAg22 fxZe22 fxSl22 fxAr22 fxPl22 fxSz23 fxBy23 fxAg23 fxZe23 fxSl23 fxAr23 fxFi23x0 fxFi23x1 fxPl23 fxSz24 fxBy24 fxAg24 fxZe24 fxSl24 fxAr24 fxFi24x0 fxFi24x1 fxPl24 fxSz26 fxBy26 fxAg26 fxZe26 fxSl26 fxAr26 fxPl26 fxSz28 fxBy28 fxAg28 fxZe28 fxSl28 fxAr28 fxPl28 fxSz29 fxBy29 fxAg29 fxZe29 fxSl29 fxAr29 fxFi29x0 fxFi29x1 fxFi29x2 fxFi29x3 fxFi29x4 fxPl29 fxSz30 fxBy30 fxAg30 fxZe30 fxSl30 fxAr30 fxFi30x0 fxFi30x1 fxFi30x2 fxFi30x3 fxFi30x4 fxPl30 fxSz48 fxBy48 fxAg48 fxZe48 fxSl48 fxAr48 fxPl48 fxSz49 fxBy49 fxAg49 fxZe49 fxSl49 fxAr49 fxPl49 fxSz53 fxBy53 fxAg53 fxZe53 fxSl53 fxAr53 fxFi53x0 fxFi53x1 fxFi53x2 fxFi53x3 fxPl53 fxSz54 fxBy54 fxAg54 fxZe54 fxSl54 fxAr54 fxFi54x0 fxFi54x1 fxFi54x2 fxFi54x3 fxPl54 fxSz59 fxBy59 fxAg59 fxZe59 fxSl59 fxAr59 fxPl59 fxSz63 fxBy63 fxAg63 fxZe63 fxSl63 fxAr63 fxPl63 fxSz68 fxBy68 fxAg68 fxZe68 fxSl68 fxAr68 fxPl68 fxSz75 fxBy75 fxAg75 fxZe75 fxSl75 fxAr75 fxPl75 fxSz90 fxBy90 fxAg90 fxZe90 fxSl90 fxAr90 fxFi90x0 fxFi90x1 fxFi90x2 fxPl90 fxSz91 fxBy91 fxAg91 fxZe91 fxSl91 fxAr91 fxFi91x0 fxFi91x1 fxFi91x2 fxPl91 fxSz96 fxBy96 fxAg96 fxZe96 fxSl96 fxAr96 fxPl96 fxSz108 fxBy108 fxAg108 fxZe108 fxSl108 fxAr108 fxPl108 fxSz115 fxBy115 fxAg115 fxZe115 fxSl115 fxAr115 fxPl115 fxSz117 fxBy117 fxAg117 fxZe117 fxSl117 fxAr117 fxPl117 fxSz124 fxBy124 fxAg124 fxZe124 fxSl124 fxAr124 fxPl124 fxSz128 fxBy128 fxAg128 fxZe128 fxSl128 fxAr128 fxPl128 fxSz133 fxBy133 fxAg133 fxZe133 fxSl133 fxAr133 fxPl133 fxSz140 fxBy140 fxAg140 fxZe140 fxSl140 fxAr140 fxPl140 fxSz141 fxBy141 fxAg141 fxZe141 fxSl141 fxAr141 fxFi141x0 fxPl141 fxSz147 fxBy147 fxAg147 fxZe147 fxSl147 fxAr147 fxPl147 fxSz152 fxBy152 fxAg152 fxZe152 fxSl152 fxAr152 fxPl152 fxEq28 fxEq30 fxEq54 fxEq91 fxCv2x2 fxCv2x3 fxCv2x5 fxCv2x12 fxCv2x21 fxCv2x26 fxCv2x96 fxCv2x108 fxCv2x115 fxCv2x117 fxCv2x124 fxCv3x2 fxCv3x3 fxCv3x5 fxCv3x12 fxCv3x21 fxCv3x26 fxCv3x96 fxCv3x108 fxCv3x115 fxCv3x117 fxCv3x124 fxCv5x2 fxCv5x3 fxCv5x5 fxCv5x12 fxCv5x21 fxCv5x26 fxCv5x96 fxCv5x108 fxCv5x115 fxCv5x117 fxCv5x124 fxCv12x2 fxCv12x3 fxCv12x5 fxCv12x12 fxCv12x21 fxCv12x26 fxCv12x96 fxCv12x108 fxCv12x115 fxCv12x117 fxCv12x124 fxCv21x2 fxCv21x3 fxCv21x5 fxCv21x12 fxCv21x21 fxCv21x26 fxCv21x96 fxCv21x108 fxCv21x115 fxCv21x117 fxCv21x124 fxCv26x2 fxCv26x3 fxCv26x5 fxCv26x12 fxCv26x21 fxCv26x26 fxCv26x96 fxCv26x108 fxCv26x115 fxCv26x117 fxCv26x124 fxCv96x2 fxCv96x3 fxCv96x5 fxCv96x12 fxCv96x21 fxCv96x26 fxCv96x96 fxCv96x108 fxCv96x115 fxCv96x117 fxCv96x124 fxCv108x2 fxCv108x3 fxCv108x5 fxCv108x12 fxCv108x21 fxCv108x26 fxCv108x96 fxCv108x108 fxCv108x115 fxCv108x117 fxCv108x124 fxCv115x2 fxCv115x3 fxCv115x5 fxCv115x12 fxCv115x21 fxCv115x26 fxCv115x96 fxCv115x108 fxCv115x115 fxCv115x117 fxCv115x124 fxCv117x2 fxCv117x3 fxCv117x5 fxCv117x12 fxCv117x21 fxCv117x26 fxCv117x96 fxCv117x108 fxCv117x115 fxCv117x117 fxCv117x124 fxCv124x2 fxCv124x3 fxCv124x5 fxCv124x12 fxCv124x21 fxCv124x26 fxCv124x96 fxCv124x108 fxCv124x115 fxCv124x117 fxCv124x124 fxEb4 fxNb4 fxLt9 fxLn22 fxNe22 fxNn22 fxOe22 fxOn22 fxXe22 fxXn22 fxLn48 fxNe48 fxNn48 fxOe48 fxOn48 fxXe48 fxXn48 fxLn49 fxNe49 fxNn49 fxOe49 fxOn49 fxXe49 fxXn49 fxLn59 fxNe59 fxNn59 fxOe59 fxOn59 fxXe59 fxXn59 fxLn63 fxNe63 fxNn63 fxOe63 fxOn63 fxXe63 fxXn63 fxLn75 fxNe75 fxNn75 fxOe75 fxOn75 fxXe75 fxXn75 fxFn3 fxFm3 fxFb3 fxFi3 fxFj3 fxFn4 fxFm4 fxFb4 fxFi4 fxFj4 fxFn5 fxFm5 fxFb5 fxFi5 fxFj5 fxFn6 fxFm6 fxFb6 fxFi6 fxFj6 fxFn7 fxFm7 fxFb7 fxFi7 fxFj7 fxFn8 fxFm8 fxFb8 fxFi8 fxFj8 fxFn9 fxFm9 fxFb9 fxFi9 fxFj9 fxFn10 fxFm10 fxFb10 fxFi10 fxFj10 fxFn11 fxFm11 fxFb11 fxFi11 fxFj11 fxFn12 fxFm12 fxFb12 fxFi12 fxFj12 fxFn13 fxFm13 fxFb13 fxFi13 fxFj13 fxFn14 fxFm14 fxFb14 fxFi14 fxFj14 fxFn15 fxFm15 fxFb15 fxFi15 fxFj15 fxFn16 fxFm16 fxFb16 fxFi16 fxFj16 fxFn17 fxFm17 fxFb17 fxFi17 fxFj17 fxFn18 fxFm18 fxFb18 fxFi18 fxFj18 fxFn19 fxFm19 fxFb19 fxFi19 fxFj19 fxFn20 fxFm20 fxFb20 fxFi20 fxFj20 fxFn21 fxFm21 fxFb21 fxFi21 fxFj21 fxFn22 fxFm22 fxFb22 fxFi22 fxFj22 fxFn23 fxFm23 fxFb23 fxFi23 fxFj23 fxFn24 fxFm24 fxFb24 fxFi24 fxFj24 fxFn25 fxFm25 fxFb25 fxFi25 fxFj25 fxFn26 fxFm26 fxFb26 fxFi26 fxFj26 fxFn27 fxFm27 fxFb27 fxFi27 fxFj27 fxFn28 fxFm28 fxFb28 fxFi28 fxFj28 fxFn29 fxFm29 fxFb29 fxFi29 fxFj29 fxFn30 fxFm30 fxFb30 fxFi30 fxFj30 fxFn31 fxFm31 fxFb31 fxFi31 fxFj31 fxFn32 fxFm32 fxFb32 fxFi32 fxFj32 fxFn33 fxFm33 fxFb33 fxFi33 fxFj33 fxFn34 fxFm34 fxFb34 fxFi34 fxFj34 fxFn35 fxFm35 fxFb35 fxFi35 fxFj35 fxFn36 fxFm36 fxFb36 fxFi36 fxFj36 fxFn37 fxFm37 fxFb37 fxFi37 fxFj37 fxFn38 fxFm38 fxFb38 fxFi38 fxFj38 fxFn39 fxFm39 fxFb39 fxFi39 fxFj39 fxFn40 fxFm40 fxFb40 fxFi40 fxFj40 fxFn41 fxFm41 fxFb41 fxFi41 fxFj41 fxFn42 fxFm42 fxFb42 fxFi42 fxFj42 fxFn43 fxFm43 fxFb43 fxFi43 fxFj43 fxFn44 fxFm44 fxFb44 fxFi44 fxFj44 fxFn45 fxFm45 fxFb45 fxFi45 fxFj45 fxFn46 fxFm46 fxFb46 fxFi46 fxFj46 fxFn47 fxFm47 fxFb47 fxFi47 fxFj47 fxFn48 fxFm48 fxFb48 fxFi48 fxFj48 fxFn49 fxFm49 fxFb49 fxFi49 fxFj49 fxFn50 fxFm50 fxFb50 fxFi50 fxFj50 fxFn51 fxFm51 fxFb51 fxFi51 fxFj51 fxFn52 fxFm52 fxFb52 fxFi52 fxFj52 fxFn53 fxFm53 fxFb53 fxFi53 fxFj53 fxFn54 fxFm54 fxFb54 fxFi54 fxFj54 fxFn55 fxFm55 fxFb55 fxFi55 fxFj55 fxFn56 fxFm56 fxFb56 fxFi56 fxFj56 fxFn57 fxFm57 fxFb57 fxFi57 fxFj57 fxFn58 fxFm58 fxFb58 fxFi58 fxFj58 fxFn59 fxFm59 fxFb59 fxFi59 fxFj59 fxFn60 fxFm60 fxFn61 fxFm61 fxFb61 fxFi61 fxFj61 fxFn62 fxFm62 fxFb62 fxFi62 fxFj62 fxFn63 fxFm63 fxFb63 fxFi63 fxFj63 fxFn64 fxFm64 fxFb64 fxFi64 fxFj64 fxFn65 fxFm65 fxFb65 fxFi65 fxFj65 fxFn66 fxFm66 fxFb66 fxFi66 fxFj66 fxFn67 fxFm67 fxFb67 fxFi67 fxFj67 fxFn68 fxFm68 fxFb68 fxFi68 fxFj68 fxFn69 fxFm69 fxFb69 fxFi69 fxFj69 fxFn70 fxFm70 fxFb70 fxFi70 fxFj70 fxFn71 fxFm71 fxFb71 fxFi71 fxFj71 fxFn72 fxFm72 fxFb72 fxFi72 fxFj72 fxFn73 fxFm73 fxFb73 fxFi73 fxFj73 fxFn74 fxFm74 fxFb74 fxFi74 fxFj74 fxFn75 fxFm75 fxFb75 fxFi75 fxFj75 fxFn76 fxFm76 fxFb76 fxFi76 fxFj76 fxFn77 fxFm77 fxFb77 fxFi77 fxFj77 fxFn78 fxFm78 fxFb78 fxFi78 fxFj78 fxFn79 fxFm79 fxFb79 fxFi79 fxFj79 fxFn80 fxFm80 fxFb80 fxFi80 fxFj80 fxFn81 fxFm81 fxFb81 fxFi81 fxFj81 fxFn82 fxFm82 fxFb82 fxFi82 fxFj82 fxFn83 fxFm83 fxFb83 fxFi83 fxFj83 fxFn84 fxFm84 fxFb84 fxFi84 fxFj84 fxFn85 fxFm85 fxFb85 fxFi85 fxFj85 fxFn86 fxFm86 fxFb86 fxFi86 fxFj86 fxFn87 fxFm87 fxFb87 fxFi87 fxFj87 fxFn88 fxFm88 fxFb88 fxFi88 fxFj88 fxFn89 fxFm89 fxFb89 fxFi89 fxFj89 fxFn90 fxFm90 fxFb90 fxFi90 fxFj90 fxFn91 fxFm91 fxFb91 fxFi91 fxFj91 fxFn92 fxFm92 fxFb92 fxFi92 fxFj92 fxFn93 fxFm93 fxFb93 fxFi93 fxFj93 fxFn94 fxFm94 fxFb94 fxFi94 fxFj94 fxFn95 fxFm95 fxFb95 fxFi95 fxFj95 fxFn96 fxFm96 fxFb96 fxFi96 fxFj96 fxFn97 fxFm97 fxFb97 fxFi97 fxFj97 fxFn98 fxFm98 fxFb98 fxFi98 fxFj98 fxFn99 fxFm99 fxFb99 fxFi99 fxFj99 fxFn100 fxFm100 fxFb100 fxFi100 fxFj100 fxFn101 fxFm101 fxFb101 fxFi101 fxFj101
attribute [local simp] Pg.eta Pg.cold Pg.mapM Pg.mapMc Pg.view Pg.viewc Pg.hotR Pg.ren Pg.renc Pg.low Pg.tau Pg.tauc Pg.bare Pg.flat Pg.flat1 Pg.mapMt Pg.mapMd Pg.coldt Pg.coldd Pg.hotRt Pg.hotRd
attribute [local simp] Pp.eta Pp.cold Pp.mapM Pp.mapMc Pp.view Pp.viewc Pp.hotR Pp.ren Pp.renc Pp.low Pp.tau Pp.tauc Pp.bare Pp.flat Pp.flat1 Pp.mapMt Pp.mapMd Pp.coldt Pp.coldd Pp.hotRt Pp.hotRd
attribute [local simp] Ca.eta Ca.dec_row Ca.dec_hrow Ca.cold Ca.hcold Ca.mapM Ca.mapMc Ca.hmapM Ca.hmapMc Ca.view Ca.viewc Ca.hview Ca.hviewc Ca.hotR Ca.ren Ca.renc Ca.low Ca.hlow
theorem map_pure : PureOk Try.prog 23 (argM (cAgg rCa) fun c => argM (cInt .i64) fun f => argM (cInt .i64) fun n => argM (cInt .i64) fun m => finM (if -1 ≤ m ∧ m ≤ 1 then some (caE (caMap c f n m)) else none)) := by
  refine pure4 Try.func23 rfl ?_
  rintro c f n m r hr
  by_cases hc : -1 ≤ m ∧ m ≤ 1
  case neg => rw [if_neg hc] at hr; cases hr
  rw [if_pos hc] at hr
  simp only [Option.some.injEq] at hr
  subst hr
  refine body_gen ((noOrc_ok.withP there_pure).withP with_pure) fxMix (by kernel_rfl) (by simp [Try.ntmps23]) ?_
  intro C cP cI cN cD cF cA
  have cp0 := orcP there_pure (C := C) (by rw [cP]; rfl)
  have cp1 := orcP with_pure (C := C) (by rw [cP]; rfl)
  replace cI : C.inl = fun _ => false := cI
  replace cD : C.dyn = fun _ => [] := cD
  clear cP cN cF cA
  unfold caMap
  by_cases h0 : caThere c f n = 0
  case neg =>
    obtain ⟨l, T⟩ := c
    simp [Try.ntmps23, Try.results23, cSl, cp0, cp1, cI, cD, rCa, caDec, Ca.row, rPp, Pp.row, ppDec, h0, caE]
    done
  obtain ⟨g, hr, hh⟩ := caThere_iff.1 h0
  obtain ⟨hi, hf, hn⟩ := hasG_iff.1 hh
  have hlt : lowT c f n = (lowG c.pages f n : Int) := by unfold lowT; rw [if_pos (caChk_iff.2 ⟨g, hr⟩)]
  have hl64 := g.len
  have hpa : pgAt c f n = c.pages[lowG c.pages f n] := by simp [pgAt, hi]
  have hb := badP_iff.1 (g.each _ (List.getElem_mem hi))
  rw [hpa]
  obtain ⟨l, T⟩ := c
  simp only at hi hlt hl64 hb ⊢
  generalize lowG l f n = k at hi hlt hb ⊢
  by_cases h1 : m = 1 ∨ m = -1
  case neg =>
    have h1a : ¬ m = 1 := fun h => h1 (.inl h)
    have h1b : ¬ m = -1 := fun h => h1 (.inr h)
    simp [Try.ntmps23, Try.results23, cSl, cp0, cp1, cI, cD, rCa, caDec, Ca.row, rPp, Pp.row, ppDec, h0, h1a, h1b, caE]
    done
  have hm : ¬ (m ≠ 1 ∧ m ≠ -1) := by omega
  have hw : IntKind.i64.wrap (l[k].maps + m) = l[k].maps + m := w64 (by omega) (by omega)
  rw [if_neg hm]
  by_cases h2 : l[k].maps + m < 0
  · simp [Try.ntmps23, Try.results23, cSl, cp0, cp1, cI, cD, rCa, caDec, Ca.row, rPp, Pp.row, ppDec, h0, h1, hm, hlt, hi, hw, h2, caE]
    done
  by_cases h3 : 64 < l[k].maps + m
  · simp [Try.ntmps23, Try.results23, cSl, cp0, cp1, cI, cD, rCa, caDec, Ca.row, rPp, Pp.row, ppDec, h0, h1, hm, hlt, hi, hw, h2, h3, caE]
    done
  simp [Try.ntmps23, Try.results23, cSl, cp0, cp1, cI, cD, rCa, caDec, Ca.row, rPp, Pp.row, ppDec, h0, h1, hm, hlt, hi, hl64, hw, h2, h3, caE, caV, mapP]
theorem put_row {a0 a1 a2 a3 : AVal} {d : Pg} {k : Nat} (hk : k < 16) (b : Int) : writeAt [a0, a1, a2, a3, .v (.int .u8 d.b0), .v (.int .u8 d.b1), .v (.int .u8 d.b2), .v (.int .u8 d.b3), .v (.int .u8 d.b4), .v (.int .u8 d.b5), .v (.int .u8 d.b6), .v (.int .u8 d.b7), .v (.int .u8 d.b8), .v (.int .u8 d.b9), .v (.int .u8 d.b10), .v (.int .u8 d.b11), .v (.int .u8 d.b12), .v (.int .u8 d.b13), .v (.int .u8 d.b14), .v (.int .u8 d.b15)] (4 + k) [.v (.int .u8 b)] = [a0, a1, a2, a3, .v (.int .u8 (putB d k b).b0), .v (.int .u8 (putB d k b).b1), .v (.int .u8 (putB d k b).b2), .v (.int .u8 (putB d k b).b3), .v (.int .u8 (putB d k b).b4), .v (.int .u8 (putB d k b).b5), .v (.int .u8 (putB d k b).b6), .v (.int .u8 (putB d k b).b7), .v (.int .u8 (putB d k b).b8), .v (.int .u8 (putB d k b).b9), .v (.int .u8 (putB d k b).b10), .v (.int .u8 (putB d k b).b11), .v (.int .u8 (putB d k b).b12), .v (.int .u8 (putB d k b).b13), .v (.int .u8 (putB d k b).b14), .v (.int .u8 (putB d k b).b15)] := by
  have h : k = 0 ∨ k = 1 ∨ k = 2 ∨ k = 3 ∨ k = 4 ∨ k = 5 ∨ k = 6 ∨ k = 7 ∨ k = 8 ∨ k = 9 ∨ k = 10 ∨ k = 11 ∨ k = 12 ∨ k = 13 ∨ k = 14 ∨ k = 15 := by omega
  rcases h with rfl | rfl | rfl | rfl | rfl | rfl | rfl | rfl | rfl | rfl | rfl | rfl | rfl | rfl | rfl | rfl <;> rfl
theorem set_pure : PureOk Try.prog 19 (argM (cAgg rCa) fun c => argM (cInt .i64) fun f => argM (cInt .i64) fun n => argM (cInt .i64) fun k => argM (cInt .u8) fun b => finM (some (caE (caSet c f n k b)))) := by
  refine pure5 Try.func19 rfl ?_
  rintro c f n k b r hr
  simp only [Option.some.injEq] at hr
  subst hr
  refine body_gen ((noOrc_ok.withP there_pure).withP with_pure) fxMix (by kernel_rfl) (by simp [Try.ntmps19]) ?_
  intro C cP cI cN cD cF cA
  have cp0 := orcP there_pure (C := C) (by rw [cP]; rfl)
  have cp1 := orcP with_pure (C := C) (by rw [cP]; rfl)
  replace cI : C.inl = fun _ => false := cI
  replace cD : C.dyn = fun _ => [] := cD
  clear cP cN cF cA
  unfold caSet
  by_cases h0 : caThere c f n = 0
  case neg =>
    obtain ⟨l, T⟩ := c
    simp [Try.ntmps19, Try.results19, cSl, cp0, cp1, cI, cD, rCa, caDec, Ca.row, rPp, Pp.row, ppDec, h0, caE]
    done
  obtain ⟨g, hr, hh⟩ := caThere_iff.1 h0
  obtain ⟨hi, hf, hn⟩ := hasG_iff.1 hh
  have hlt : lowT c f n = (lowG c.pages f n : Int) := by unfold lowT; rw [if_pos (caChk_iff.2 ⟨g, hr⟩)]
  have hl64 := g.len
  have hc1 := g.c1
  have hc2 := g.c2
  have hpa : pgAt c f n = c.pages[lowG c.pages f n] := by simp [pgAt, hi]
  have hb := badP_iff.1 (g.each _ (List.getElem_mem hi))
  rw [hpa]
  obtain ⟨l, T⟩ := c
  simp only at hi hlt hl64 hb hc1 hc2 ⊢
  generalize lowG l f n = i at hi hlt hb ⊢
  by_cases h1 : k < 0
  · simp [Try.ntmps19, Try.results19, cSl, cp0, cp1, cI, cD, rCa, caDec, Ca.row, rPp, Pp.row, ppDec, h0, h1, caE]
    done
  by_cases h2 : 16 ≤ k
  · simp [Try.ntmps19, Try.results19, cSl, cp0, cp1, cI, cD, rCa, caDec, Ca.row, rPp, Pp.row, ppDec, h0, h1, h2, caE]
    done
  have h12 : ¬ (k < 0 ∨ 16 ≤ k) := by omega
  rw [if_neg h12]
  by_cases h3 : T = 1073741824
  · subst h3
    simp [Try.ntmps19, Try.results19, cSl, cp0, cp1, cI, cD, rCa, caDec, Ca.row, rPp, Pp.row, ppDec, h0, h1, h2, caE]
    done
  obtain ⟨k, rfl⟩ := Int.eq_ofNat_of_zero_le (show 0 ≤ k by omega)
  have hk : k < 16 := by omega
  have hk2 : ¬ 16 ≤ k := by omega
  have hk3 : (k : Int) < 16 := by omega
  have hk4 : 4 + k + 1 ≤ 20 := by omega
  have hk5 : k ≤ 15 := by omega
  have hk6 : 4 + k < 20 := by omega
  have hw : IntKind.i64.wrap (T + 1) = T + 1 := w64 (by omega) (by omega)
  by_cases h4 : l[i].dirty = 0
  · simp [Try.ntmps19, Try.results19, cSl, cp0, cp1, cI, cD, rCa, caDec, Ca.row, rPp, Pp.row, ppDec, h0, h1, h2, h3, h4, hk, hk2, hk3, hk4, hk5, hk6, hlt, hi, hl64, hw, put_row hk, caE, caV, setP]
    done
  · simp [Try.ntmps19, Try.results19, cSl, cp0, cp1, cI, cD, rCa, caDec, Ca.row, rPp, Pp.row, ppDec, h0, h1, h2, h3, h4, hk, hk2, hk3, hk4, hk5, hk6, hlt, hi, hl64, hw, put_row hk, caE, caV, setP]
    done
end Go.Proofs.Ytdhkhnegnlmgiaa
namespace Go.Proofs.Ytdhkhnegnlmgiaa
open Go.AI
set_option maxHeartbeats 2000000
set_option maxRecDepth 100000
set_option linter.unusedSimpArgs false
set_option linter.unusedVariables false
attribute [local simp] wpA wpX RunA RunD runF foot footP footB idsA bare apart runL step1 gsel_f gsel_t gsel_s res_same res_and1 res_and2 res_and3 res_and4 res_and5 res_and6 res_false res_true res_v res_ptr res_fptr res_osl res_xsl soft aAppendZ aCap ovlI ovlJ res_fsl res_esl res_agg res_tup res_fn res_junk res_anyb aPick hk imp_left iteV dstOk guardOk astep astepE AI.ev AI.look AI.put envOf aBox cellsOf allOne allOneA oneA Value.oneCell' Value.cells newObj' aFieldAddr aLoad obj readAt thenA blockA condA retA resA tupA view hot hotC hotR depthV cAgg cInt cBool mkAgg allV aAlloc aBuild fillA writeAt aStore isAggA aField idx aIndexAddr aIndex bnd aSlice aExtract aLen aBuiltin aCall isStatic eqAgg eqTy eqC ev_add ev_sub ev_mul ev_quo ev_rem ev_and ev_or ev_xor ev_andNot ev_shl ev_shr ev_eql ev_neq ev_lss ev_leq ev_gtr ev_geq ev_agg w64 wu32 wu8 ev_not ev_neg Cod.plain RCod.plain argM finM cold coldC coldR goInt intDec boolDec aggDec Weaker heapW lowA lowC Again slDec undef aBuildSlice setRows aAppend rowsOf aMakeSlice aClear aCopy softer_self softer_nil valsOf ev_min2 ev_max2 hotR_set hotR_append take_map_set irow_cold irow_mapM irow_mapMc irow_view irow_viewc irow_hotR irow_ren irow_renc irow_low WeakT heapT thOf ren renC AgainT NextF NextT fnDec cFn rNil selfLt natLt0 natLt1 getLastMap frame0 frame1 own0 own1 argG finG tau tauI tauO tauC bareA bareC bareH irow_tau irow_tauc irow_bare irow_flat irow_bareR ownA_nil ownT_nil ownA_c ownT_c ownA_s ownT_s takeMapLen footC plainA noId noIdC cloneF frame0F frame1F insertF replaceI replaceF cellDec rCell fpDec cFp rTwo deleteF allV_oA oneA_oA res_oA RunR RunE runFT footAt hotR_cat tmodN fxSz2 fxBy2 fxAg2 fxZe2 fxSl2 fxAr2 fxPl2 fxSz3 fxBy3 fxAg3 fxZe3 fxSl3 fxAr3 fxPl3 fxSz4 fxBy4 fxAg4 fxZe4 fxSl4 fxAr4 fxPl4 fxSz5 fxBy5 fxAg5 fxZe5 fxSl5 fxAr5 fxPl5 fxSz9 fxBy9 fxAg9 fxZe9 fxSl9 fxAr9 fxPl9 fxSz12 fxBy12 fxAg12 fxZe12 fxSl12 fxAr12 fxPl12 fxSz13 fxBy13 fxAg13 fxZe13 fxSl13 fxAr13 fxFi13x0 fxFi13x1 fxPl13 fxSz21 fxBy21 fxAg21 fxZe21 fxSl21 fxAr21 fxPl21 fxSz22 fxBy22 fxAg22 fxZe22 fxSl22 fxAr22 fxPl22 fxSz23 fxBy23 fxAg23 fxZe23 fxSl23 fxAr23 fxFi23x0 fxFi23x1 fxPl23 fxSz24 fxBy24 fxAg24 fxZe24 fxSl24 fxAr24 fxFi24x0 fxFi24x1 fxPl24 fxSz26 fxBy26 fxAg26 fxZe26 fxSl26 fxAr26 fxPl26 fxSz28 fxBy28 fxAg28 fxZe28 fxSl28 fxAr28 fxPl28 fxSz29 fxBy29 fxAg29 fxZe29 fxSl29 fxAr29 fxFi29x0 fxFi29x1 fxFi29x2 fxFi29x3 fxFi29x4 fxPl29 fxSz30 fxBy30 fxAg30 fxZe30 fxSl30 fxAr30 fxFi30x0 fxFi30x1 fxFi30x2 fxFi30x3 fxFi30x4 fxPl30 fxSz48 fxBy48 fxAg48 fxZe48 fxSl48 fxAr48 fxPl48 fxSz49 fxBy49 fxAg49 fxZe49 fxSl49 fxAr49 fxPl49 fxSz53 fxBy53 fxAg53 fxZe53 fxSl53 fxAr53 fxFi53x0 fxFi53x1 fxFi53x2 fxFi53x3 fxPl53 fxSz54 fxBy54 fxAg54 fxZe54 fxSl54 fxAr54 fxFi54x0 fxFi54x1 fxFi54x2 fxFi54x3 fxPl54 fxSz59 fxBy59 fxAg59 fxZe59 fxSl59 fxAr59 fxPl59 fxSz63 fxBy63 fxAg63 fxZe63 fxSl63 fxAr63 fxPl63 fxSz68 fxBy68 fxAg68 fxZe68 fxSl68 fxAr68 fxPl68 fxSz75 fxBy75 fxAg75 fxZe75 fxSl75 fxAr75 fxPl75 fxSz90 fxBy90 fxAg90 fxZe90 fxSl90 fxAr90 fxFi90x0 fxFi90x1 fxFi90x2 fxPl90 fxSz91 fxBy91 fxAg91 fxZe91 fxSl91 fxAr91 fxFi91x0 fxFi91x1 fxFi91x2 fxPl91 fxSz96 fxBy96 fxAg96 fxZe96 fxSl96 fxAr96 fxPl96 fxSz108 fxBy108 fxAg108 fxZe108 fxSl108 fxAr108 fxPl108 fxSz115 fxBy115 fxAg115 fxZe115 fxSl115 fxAr115 fxPl115 fxSz117 fxBy117 fxAg117 fxZe117 fxSl117 fxAr117 fxPl117 fxSz124 fxBy124 fxAg124 fxZe124 fxSl124 fxAr124 fxPl124 fxSz128 fxBy128 fxAg128 fxZe128 fxSl128 fxAr128 fxPl128 fxSz133 fxBy133 fxAg133 fxZe133 fxSl133 fxAr133 fxPl133 fxSz140 fxBy140 fxAg140 fxZe140 fxSl140 fxAr140 fxPl140 fxSz141 fxBy141 fxAg141 fxZe141 fxSl141 fxAr141 fxFi141x0 fxPl141 fxSz147 fxBy147 fxAg147 fxZe147 fxSl147 fxAr147 fxPl147 fxSz152 fxBy152 fxAg152 fxZe152 fxSl152 fxAr152 fxPl152 fxEq28 fxEq30 fxEq54 fxEq91 fxCv2x2 fxCv2x3 fxCv2x5 fxCv2x12 fxCv2x21 fxCv2x26 fxCv2x96 fxCv2x108 fxCv2x115 fxCv2x117 fxCv2x124 fxCv3x2 fxCv3x3 fxCv3x5 fxCv3x12 fxCv3x21 fxCv3x26 fxCv3x96 fxCv3x108 fxCv3x115 fxCv3x117 fxCv3x124 fxCv5x2 fxCv5x3 fxCv5x5 fxCv5x12 fxCv5x21 fxCv5x26 fxCv5x96 fxCv5x108 fxCv5x115 fxCv5x117 fxCv5x124 fxCv12x2 fxCv12x3 fxCv12x5 fxCv12x12 fxCv12x21 fxCv12x26 fxCv12x96 fxCv12x108 fxCv12x115 fxCv12x117 fxCv12x124 fxCv21x2 fxCv21x3 fxCv21x5 fxCv21x12 fxCv21x21 fxCv21x26 fxCv21x96 fxCv21x108 fxCv21x115 fxCv21x117 fxCv21x124 fxCv26x2 fxCv26x3 fxCv26x5 fxCv26x12 fxCv26x21 fxCv26x26 fxCv26x96 fxCv26x108 fxCv26x115 fxCv26x117 fxCv26x124 fxCv96x2 fxCv96x3 fxCv96x5 fxCv96x12 fxCv96x21 fxCv96x26 fxCv96x96 fxCv96x108 fxCv96x115 fxCv96x117 fxCv96x124 fxCv108x2 fxCv108x3 fxCv108x5 fxCv108x12 fxCv108x21 fxCv108x26 fxCv108x96 fxCv108x108 fxCv108x115 fxCv108x117 fxCv108x124 fxCv115x2 fxCv115x3 fxCv115x5 fxCv115x12 fxCv115x21 fxCv115x26 fxCv115x96 fxCv115x108 fxCv115x115 fxCv115x117 fxCv115x124 fxCv117x2 fxCv117x3 fxCv117x5 fxCv117x12 fxCv117x21 fxCv117x26 fxCv117x96 fxCv117x108 fxCv117x115 fxCv117x117 fxCv117x124 fxCv124x2 fxCv124x3 fxCv124x5 fxCv124x12 fxCv124x21 fxCv124x26 fxCv124x96 fxCv124x108 fxCv124x115 fxCv124x117 fxCv124x124 fxEb4 fxNb4 fxLt9 fxLn22 fxNe22 fxNn22 fxOe22 fxOn22 fxXe22 fxXn22 fxLn48 fxNe48 fxNn48 fxOe48 fxOn48 fxXe48 fxXn48 fxLn49 fxNe49 fxNn49 fxOe49 fxOn49 fxXe49 fxXn49 fxLn59 fxNe59 fxNn59 fxOe59 fxOn59 fxXe59 fxXn59 fxLn63 fxNe63 fxNn63 fxOe63 fxOn63 fxXe63 fxXn63 fxLn75 fxNe75 fxNn75 fxOe75 fxOn75 fxXe75 fxXn75 fxFn3 fxFm3 fxFb3 fxFi3 fxFj3 fxFn4 fxFm4 fxFb4 fxFi4 fxFj4 fxFn5 fxFm5 fxFb5 fxFi5 fxFj5 fxFn6 fxFm6 fxFb6 fxFi6 fxFj6 fxFn7 fxFm7 fxFb7 fxFi7 fxFj7 fxFn8 fxFm8 fxFb8 fxFi8 fxFj8 fxFn9 fxFm9 fxFb9 fxFi9 fxFj9 fxFn10 fxFm10 fxFb10 fxFi10 fxFj10 fxFn11 fxFm11 fxFb11 fxFi11 fxFj11 fxFn12 fxFm12 fxFb12 fxFi12 fxFj12 fxFn13 fxFm13 fxFb13 fxFi13 fxFj13 fxFn14 fxFm14 fxFb14 fxFi14 fxFj14 fxFn15 fxFm15 fxFb15 fxFi15 fxFj15 fxFn16 fxFm16 fxFb16 fxFi16 fxFj16 fxFn17 fxFm17 fxFb17 fxFi17 fxFj17 fxFn18 fxFm18 fxFb18 fxFi18 fxFj18 fxFn19 fxFm19 fxFb19 fxFi19 fxFj19 fxFn20 fxFm20 fxFb20 fxFi20 fxFj20 fxFn21 fxFm21 fxFb21 fxFi21 fxFj21 fxFn22 fxFm22 fxFb22 fxFi22 fxFj22 fxFn23 fxFm23 fxFb23 fxFi23 fxFj23 fxFn24 fxFm24 fxFb24 fxFi24 fxFj24 fxFn25 fxFm25 fxFb25 fxFi25 fxFj25 fxFn26 fxFm26 fxFb26 fxFi26 fxFj26 fxFn27 fxFm27 fxFb27 fxFi27 fxFj27 fxFn28 fxFm28 fxFb28 fxFi28 fxFj28 fxFn29 fxFm29 fxFb29 fxFi29 fxFj29 fxFn30 fxFm30 fxFb30 fxFi30 fxFj30 fxFn31 fxFm31 fxFb31 fxFi31 fxFj31 fxFn32 fxFm32 fxFb32 fxFi32 fxFj32 fxFn33 fxFm33 fxFb33 fxFi33 fxFj33 fxFn34 fxFm34 fxFb34 fxFi34 fxFj34 fxFn35 fxFm35 fxFb35 fxFi35 fxFj35 fxFn36 fxFm36 fxFb36 fxFi36 fxFj36 fxFn37 fxFm37 fxFb37 fxFi37 fxFj37 fxFn38 fxFm38 fxFb38 fxFi38 fxFj38 fxFn39 fxFm39 fxFb39 fxFi39 fxFj39 fxFn40 fxFm40 fxFb40 fxFi40 fxFj40 fxFn41 fxFm41 fxFb41 fxFi41 fxFj41 fxFn42 fxFm42 fxFb42 fxFi42 fxFj42 fxFn43 fxFm43 fxFb43 fxFi43 fxFj43 fxFn44 fxFm44 fxFb44 fxFi44 fxFj44 fxFn45 fxFm45 fxFb45 fxFi45 fxFj45 fxFn46 fxFm46 fxFb46 fxFi46 fxFj46 fxFn47 fxFm47 fxFb47 fxFi47 fxFj47 fxFn48 fxFm48 fxFb48 fxFi48 fxFj48 fxFn49 fxFm49 fxFb49 fxFi49 fxFj49 fxFn50 fxFm50 fxFb50 fxFi50 fxFj50 fxFn51 fxFm51 fxFb51 fxFi51 fxFj51 fxFn52 fxFm52 fxFb52 fxFi52 fxFj52 fxFn53 fxFm53 fxFb53 fxFi53 fxFj53 fxFn54 fxFm54 fxFb54 fxFi54 fxFj54 fxFn55 fxFm55 fxFb55 fxFi55 fxFj55 fxFn56 fxFm56 fxFb56 fxFi56 fxFj56 fxFn57 fxFm57 fxFb57 fxFi57 fxFj57 fxFn58 fxFm58 fxFb58 fxFi58 fxFj58 fxFn59 fxFm59 fxFb59 fxFi59 fxFj59 fxFn60 fxFm60 fxFn61 fxFm61 fxFb61 fxFi61 fxFj61 fxFn62 fxFm62 fxFb62 fxFi62 fxFj62 fxFn63 fxFm63 fxFb63 fxFi63 fxFj63 fxFn64 fxFm64 fxFb64 fxFi64 fxFj64 fxFn65 fxFm65 fxFb65 fxFi65 fxFj65 fxFn66 fxFm66 fxFb66 fxFi66 fxFj66 fxFn67 fxFm67 fxFb67 fxFi67 fxFj67 fxFn68 fxFm68 fxFb68 fxFi68 fxFj68 fxFn69 fxFm69 fxFb69 fxFi69 fxFj69 fxFn70 fxFm70 fxFb70 fxFi70 fxFj70 fxFn71 fxFm71 fxFb71 fxFi71 fxFj71 fxFn72 fxFm72 fxFb72 fxFi72 fxFj72 fxFn73 fxFm73 fxFb73 fxFi73 fxFj73 fxFn74 fxFm74 fxFb74 fxFi74 fxFj74 fxFn75 fxFm75 fxFb75 fxFi75 fxFj75 fxFn76 fxFm76 fxFb76 fxFi76 fxFj76 fxFn77 fxFm77 fxFb77 fxFi77 fxFj77 fxFn78 fxFm78 fxFb78 fxFi78 fxFj78 fxFn79 fxFm79 fxFb79 fxFi79 fxFj79 fxFn80 fxFm80 fxFb80 fxFi80 fxFj80 fxFn81 fxFm81 fxFb81 fxFi81 fxFj81 fxFn82 fxFm82 fxFb82 fxFi82 fxFj82 fxFn83 fxFm83 fxFb83 fxFi83 fxFj83 fxFn84 fxFm84 fxFb84 fxFi84 fxFj84 fxFn85 fxFm85 fxFb85 fxFi85 fxFj85 fxFn86 fxFm86 fxFb86 fxFi86 fxFj86 fxFn87 fxFm87 fxFb87 fxFi87 fxFj87 fxFn88 fxFm88 fxFb88 fxFi88 fxFj88 fxFn89 fxFm89 fxFb89 fxFi89 fxFj89 fxFn90 fxFm90 fxFb90 fxFi90 fxFj90 fxFn91 fxFm91 fxFb91 fxFi91 fxFj91 fxFn92 fxFm92 fxFb92 fxFi92 fxFj92 fxFn93 fxFm93 fxFb93 fxFi93 fxFj93 fxFn94 fxFm94 fxFb94 fxFi94 fxFj94 fxFn95 fxFm95 fxFb95 fxFi95 fxFj95 fxFn96 fxFm96 fxFb96 fxFi96 fxFj96 fxFn97 fxFm97 fxFb97 fxFi97 fxFj97 fxFn98 fxFm98 fxFb98 fxFi98 fxFj98 fxFn99 fxFm99 fxFb99 fxFi99 fxFj99 fxFn100 fxFm100 fxFb100 fxFi100 fxFj100 fxFn101 fxFm101 fxFb101 fxFi101 fxFj101
attribute [local simp] Pg.eta Pg.cold Pg.mapM Pg.mapMc Pg.view Pg.viewc Pg.hotR Pg.ren Pg.renc Pg.low Pg.tau Pg.tauc Pg.bare Pg.flat Pg.flat1 Pg.mapMt Pg.mapMd Pg.coldt Pg.coldd Pg.hotRt Pg.hotRd
attribute [local simp] Pp.eta Pp.cold Pp.mapM Pp.mapMc Pp.view Pp.viewc Pp.hotR Pp.ren Pp.renc Pp.low Pp.tau Pp.tauc Pp.bare Pp.flat Pp.flat1 Pp.mapMt Pp.mapMd Pp.coldt Pp.coldd Pp.hotRt Pp.hotRd
attribute [local simp] Ca.eta Ca.dec_row Ca.dec_hrow Ca.cold Ca.hcold Ca.mapM Ca.mapMc Ca.hmapM Ca.hmapMc Ca.view Ca.viewc Ca.hview Ca.hviewc Ca.hotR Ca.ren Ca.renc Ca.low Ca.hlow
theorem out_pure : PureOk Try.prog 15 (argM (cAgg rCa) fun c => argM (cInt .i64) fun f => argM (cInt .i64) fun n => finM (some (caE (caOut c f n)))) := by
  refine pure3 Try.func15 rfl ?_
  rintro c f n r hr
  simp only [Option.some.injEq] at hr
  subst hr
  refine body_gen ((((noOrc_ok.withP there_pure).withIF clPp clone_loc).withIF delPp delete_loc).withD (fun i => if i = 6 then [(2,8),(6,8)] else [])) fxMix (by kernel_rfl) (by simp [Try.ntmps15]) ?_
  intro C cP cI cN cD cF cA
  have cp0 := orcP there_pure (C := C) (by rw [cP]; rfl)
  have cn0 := orcI clPp (C := C) (by rw [cN]; rfl)
  have cn1 := orcI delPp (C := C) (by rw [cN]; rfl)
  replace cI := fun g => congrFun cI g
  simp only [Orc.withP, Orc.withI, Orc.withF, Orc.withD, Orc.withA, noOrc] at cI
  replace cD : C.dyn = fun i => if i = 6 then [(2,8),(6,8)] else [] := cD
  replace cF := fun g => congrFun cF g
  simp only [Orc.withP, Orc.withI, Orc.withF, Orc.withD, Orc.withA, noOrc] at cF
  replace cA : C.alt = fun _ => [] := cA
  clear cP cN
  unfold caOut
  by_cases h0 : caThere c f n = 0
  case neg =>
    obtain ⟨l, T⟩ := c
    simp [Try.ntmps15, Try.results15, cSl, cp0, cn0, cn1, cI, cD, cF, cA, rCa, caDec, Ca.row, rPp, Pp.row, ppDec, h0, caE]
    done
  obtain ⟨g, hr, hh⟩ := caThere_iff.1 h0
  obtain ⟨hi, hf, hn⟩ := hasG_iff.1 hh
  have hlt : lowT c f n = (lowG c.pages f n : Int) := by unfold lowT; rw [if_pos (caChk_iff.2 ⟨g, hr⟩)]
  have hl64 := g.len
  have hpa : pgAt c f n = c.pages[lowG c.pages f n] := by simp [pgAt, hi]
  rw [hpa]
  obtain ⟨l, T⟩ := c
  simp only at hi hlt hl64 ⊢
  generalize lowG l f n = k at hi hlt ⊢
  by_cases h1 : 0 < l[k].maps
  · simp [Try.ntmps15, Try.results15, cSl, cp0, cn0, cn1, cI, cD, cF, cA, rCa, caDec, Ca.row, rPp, Pp.row, ppDec, h0, h1, hlt, hi, caE]
    done
  by_cases h2 : 0 < l[k].dirty
  · simp [Try.ntmps15, Try.results15, cSl, cp0, cn0, cn1, cI, cD, cF, cA, rCa, caDec, Ca.row, rPp, Pp.row, ppDec, h0, h1, h2, hlt, hi, caE]
    done
  have hl2 : l.length ≤ 4294967296 := by omega
  have hl3 : l.length ≤ 1048576 := by omega
  have hne : ¬ l = [] := by intro h; subst h; simp at hi
  have hpos : 0 < l.length := by omega
  have hw : IntKind.i64.wrap ((k : Int) + 1) = (k : Int) + 1 := w64 (by omega) (by omega)
  have he : (List.map Pp.row l).eraseIdx k = List.map Pp.row (l.eraseIdx k) := by simp [List.eraseIdx_eq_take_drop_succ]
  have hel : (l.eraseIdx k).length = l.length - 1 := List.length_eraseIdx_of_lt hi
  have hel2 : l.length ≤ l.length - 1 + 1 := by omega
  have het : List.take (l.length - 1) (List.map Pp.row (l.eraseIdx k)) = List.map Pp.row (l.eraseIdx k) := List.take_of_length_le (by simp [hel])
  simp [Try.ntmps15, Try.results15, cSl, cp0, cn0, cn1, cI, cD, cF, cA, he, hel, hel2, het, rCa, caDec, Ca.row, rPp, Pp.row, ppDec, h0, h1, h2, hlt, hi, hl2, hl3, hne, hpos, hw, caE, caV, cloneI, deleteI]
  done
theorem bring_pure : PureOk Try.prog 21 (argM (cAgg rCa) fun c => argM (cInt .i64) fun f => argM (cInt .i64) fun n => argM (cAgg rPg) fun d => finM (some (caE (caBring c f n d)))) := by
  refine pure4 Try.func21 rfl ?_
  rintro c f n d r hr
  simp only [Option.some.injEq] at hr
  subst hr
  refine body_gen (((((noOrc_ok.withP at_pure).withIF clPp clone_loc).withIF insPp insert_loc).withD (fun i => if i = 8 then [(2,8),(2,6),(1,8),(2,11),(8,11),(9,11)] else [])).withA (fun i => if i = 8 then [0,1,3,4,5,6,7,8,2,9,10,11,12,13,14] else [])) fxMix (by kernel_rfl) (by simp [Try.ntmps21]) ?_
  intro C cP cI cN cD cF cA
  have cp0 := orcP at_pure (C := C) (by rw [cP]; rfl)
  have cn0 := orcI clPp (C := C) (by rw [cN]; rfl)
  have cn1 := orcI insPp (C := C) (by rw [cN]; rfl)
  replace cI := fun g => congrFun cI g
  simp only [Orc.withP, Orc.withI, Orc.withF, Orc.withD, Orc.withA, noOrc] at cI
  replace cD : C.dyn = fun i => if i = 8 then [(2,8),(2,6),(1,8),(2,11),(8,11),(9,11)] else [] := cD
  replace cF := fun g => congrFun cF g
  simp only [Orc.withP, Orc.withI, Orc.withF, Orc.withD, Orc.withA, noOrc] at cF
  replace cA : C.alt = fun i => if i = 8 then [0,1,3,4,5,6,7,8,2,9,10,11,12,13,14] else [] := cA
  have rg15 : List.range 15 = [0, 1, 2, 3, 4, 5, 6, 7, 8, 9, 10, 11, 12, 13, 14] := rfl
  clear cP cN
  unfold caBring
  by_cases h0 : caChk c f n = 0
  case neg =>
    obtain ⟨l, T⟩ := c
    simp [Try.ntmps21, Try.results21, cSl, cp0, cn0, cn1, cI, cD, cF, cA, rg15, rCa, caDec, Ca.row, rPp, Pp.row, ppDec, rPg, Pg.row, pgDec, atE, h0, caE]
    done
  obtain ⟨g, hr⟩ := caChk_iff.1 h0
  have hl64 := g.len
  have hle := lowG_le c.pages f n
  have hck := caCheck_iff.2 g
  by_cases h1 : hasG c.pages f n = true
  · obtain ⟨l, T⟩ := c
    simp [Try.ntmps21, Try.results21, cSl, cp0, cn0, cn1, cI, cD, cF, cA, rg15, rCa, caDec, Ca.row, rPp, Pp.row, ppDec, rPg, Pg.row, pgDec, atE, h0, h1, caE]
    done
  simp only [Bool.not_eq_true] at h1
  by_cases h2 : c.pages.length = 64
  · have h2' : (c.pages.length : Int) = 64 := by omega
    obtain ⟨l, T⟩ := c
    simp [Try.ntmps21, Try.results21, cSl, cp0, cn0, cn1, cI, cD, cF, cA, rg15, rCa, caDec, Ca.row, rPp, Pp.row, ppDec, rPg, Pg.row, pgDec, atE, h0, h1, h2, h2', caE]
    done
  have h2' : ¬ (c.pages.length : Int) = 64 := by omega
  obtain ⟨l, T⟩ := c
  simp only at hl64 hle h2 h2' h1 ⊢
  by_cases hn : l = []
  · subst hn
    have hlo : lowG [] f n = 0 := rfl
    simp [Try.ntmps21, Try.results21, cSl, cp0, cn0, cn1, cI, cD, cF, cA, rg15, rCa, caDec, Ca.row, rPp, Pp.row, ppDec, rPg, Pg.row, pgDec, atE, h0, h1, hlo, caE, caV, cloneI, insertI, insG]
    done
  have hpos : 0 < l.length := List.length_pos_iff.2 hn
  have hl2 : l.length ≤ 4294967296 := by omega
  have hl3 : l.length ≤ 1048576 := by omega
  have hh1 : l.length + 1 ≤ lowG l f n + (l.length - lowG l f n + 1) := by omega
  have hh2 : ∀ x : Row, List.take (l.length + 1) (List.take (lowG l f n) (List.map Pp.row l) ++ x :: List.drop (lowG l f n) (List.map Pp.row l)) = List.take (lowG l f n) (List.map Pp.row l) ++ x :: List.drop (lowG l f n) (List.map Pp.row l) := by
    intro x; apply List.take_of_length_le; simp; omega
  simp [Try.ntmps21, Try.results21, cSl, cp0, cn0, cn1, cI, cD, cF, cA, rg15, rCa, caDec, Ca.row, rPp, Pp.row, ppDec, rPg, Pg.row, pgDec, atE, h0, h1, h2, h2', hl2, hl3, hn, hpos, hle, hh1, hh2, caE, caV, cloneI, insertI, insG]
end Go.Proofs.Ytdhkhnegnlmgiaa
namespace Go.Proofs.Ytdhkhnegnlmgiaa
open Go.AI
set_option maxHeartbeats 2000000
set_option maxRecDepth 100000
set_option linter.unusedSimpArgs false
set_option linter.unusedVariables false
attribute [local simp] wpA wpX RunA RunD runF foot footP footB idsA bare apart runL step1 gsel_f gsel_t gsel_s res_same res_and1 res_and2 res_and3 res_and4 res_and5 res_and6 res_false res_true res_v res_ptr res_fptr res_osl res_xsl soft aAppendZ aCap ovlI ovlJ res_fsl res_esl res_agg res_tup res_fn res_junk res_anyb aPick hk imp_left iteV dstOk guardOk astep astepE AI.ev AI.look AI.put envOf aBox cellsOf allOne allOneA oneA Value.oneCell' Value.cells newObj' aFieldAddr aLoad obj readAt thenA blockA condA retA resA tupA view hot hotC hotR depthV cAgg cInt cBool mkAgg allV aAlloc aBuild fillA writeAt aStore isAggA aField idx aIndexAddr aIndex bnd aSlice aExtract aLen aBuiltin aCall isStatic eqAgg eqTy eqC ev_add ev_sub ev_mul ev_quo ev_rem ev_and ev_or ev_xor ev_andNot ev_shl ev_shr ev_eql ev_neq ev_lss ev_leq ev_gtr ev_geq ev_agg w64 wu32 wu8 ev_not ev_neg Cod.plain RCod.plain argM finM cold coldC coldR goInt intDec boolDec aggDec Weaker heapW lowA lowC Again slDec undef aBuildSlice setRows aAppend rowsOf aMakeSlice aClear aCopy softer_self softer_nil valsOf ev_min2 ev_max2 hotR_set hotR_append take_map_set irow_cold irow_mapM irow_mapMc irow_view irow_viewc irow_hotR irow_ren irow_renc irow_low WeakT heapT thOf ren renC AgainT NextF NextT fnDec cFn rNil selfLt natLt0 natLt1 getLastMap frame0 frame1 own0 own1 argG finG tau tauI tauO tauC bareA bareC bareH irow_tau irow_tauc irow_bare irow_flat irow_bareR ownA_nil ownT_nil ownA_c ownT_c ownA_s ownT_s takeMapLen footC plainA noId noIdC cloneF frame0F frame1F insertF replaceI replaceF cellDec rCell fpDec cFp rTwo deleteF allV_oA oneA_oA res_oA RunR RunE runFT footAt hotR_cat tmodN fxSz2 fxBy2 fxAg2 fxZe2 fxSl2 fxAr2 fxPl2 fxSz3 fxBy3 fxAg3 fxZe3 fxSl3 fxAr3 fxPl3 fxSz4 fxBy4 fxAg4 fxZe4 fxSl4 fxAr4 fxPl4 fxSz5 fxBy5 fxAg5 fxZe5 fxSl5 fxAr5 fxPl5 fxSz9 fxBy9 fxAg9 fxZe9 fxSl9 fxAr9 fxPl9 fxSz12 fxBy12 fxAg12 fxZe12 fxSl12 fxAr12 fxPl12 fxSz13 fxBy13 fxAg13 fxZe13 fxSl13 fxAr13 fxFi13x0 fxFi13x1 fxPl13 fxSz21 fxBy21 fxAg21 fxZe21 fxSl21 fxAr21 fxPl21 fxSz22 fxBy22 fxAg22 fxZe22 fxSl22 fxAr22 fxPl22 fxSz23 fxBy23 fxAg23 fxZe23 fxSl23 fxAr23 fxFi23x0 fxFi23x1 fxPl23 fxSz24 fxBy24 fxAg24 fxZe24 fxSl24 fxAr24 fxFi24x0 fxFi24x1 fxPl24 fxSz26 fxBy26 fxAg26 fxZe26 fxSl26 fxAr26 fxPl26 fxSz28 fxBy28 fxAg28 fxZe28 fxSl28 fxAr28 fxPl28 fxSz29 fxBy29 fxAg29 fxZe29 fxSl29 fxAr29 fxFi29x0 fxFi29x1 fxFi29x2 fxFi29x3 fxFi29x4 fxPl29 fxSz30 fxBy30 fxAg30 fxZe30 fxSl30 fxAr30 fxFi30x0 fxFi30x1 fxFi30x2 fxFi30x3 fxFi30x4 fxPl30 fxSz48 fxBy48 fxAg48 fxZe48 fxSl48 fxAr48 fxPl48 fxSz49 fxBy49 fxAg49 fxZe49 fxSl49 fxAr49 fxPl49 fxSz53 fxBy53 fxAg53 fxZe53 fxSl53 fxAr53 fxFi53x0 fxFi53x1 fxFi53x2 fxFi53x3 fxPl53 fxSz54 fxBy54 fxAg54 fxZe54 fxSl54 fxAr54 fxFi54x0 fxFi54x1 fxFi54x2 fxFi54x3 fxPl54 fxSz59 fxBy59 fxAg59 fxZe59 fxSl59 fxAr59 fxPl59 fxSz63 fxBy63 fxAg63 fxZe63 fxSl63 fxAr63 fxPl63 fxSz68 fxBy68 fxAg68 fxZe68 fxSl68 fxAr68 fxPl68 fxSz75 fxBy75 fxAg75 fxZe75 fxSl75 fxAr75 fxPl75 fxSz90 fxBy90 fxAg90 fxZe90 fxSl90 fxAr90 fxFi90x0 fxFi90x1 fxFi90x2 fxPl90 fxSz91 fxBy91 fxAg91 fxZe91 fxSl91 fxAr91 fxFi91x0 fxFi91x1 fxFi91x2 fxPl91 fxSz96 fxBy96 fxAg96 fxZe96 fxSl96 fxAr96 fxPl96 fxSz108 fxBy108 fxAg108 fxZe108 fxSl108 fxAr108 fxPl108 fxSz115 fxBy115 fxAg115 fxZe115 fxSl115 fxAr115 fxPl115 fxSz117 fxBy117 fxAg117 fxZe117 fxSl117 fxAr117 fxPl117 fxSz124 fxBy124 fxAg124 fxZe124 fxSl124 fxAr124 fxPl124 fxSz128 fxBy128 fxAg128 fxZe128 fxSl128 fxAr128 fxPl128 fxSz133 fxBy133 fxAg133 fxZe133 fxSl133 fxAr133 fxPl133 fxSz140 fxBy140 fxAg140 fxZe140 fxSl140 fxAr140 fxPl140 fxSz141 fxBy141 fxAg141 fxZe141 fxSl141 fxAr141 fxFi141x0 fxPl141 fxSz147 fxBy147 fxAg147 fxZe147 fxSl147 fxAr147 fxPl147 fxSz152 fxBy152 fxAg152 fxZe152 fxSl152 fxAr152 fxPl152 fxEq28 fxEq30 fxEq54 fxEq91 fxCv2x2 fxCv2x3 fxCv2x5 fxCv2x12 fxCv2x21 fxCv2x26 fxCv2x96 fxCv2x108 fxCv2x115 fxCv2x117 fxCv2x124 fxCv3x2 fxCv3x3 fxCv3x5 fxCv3x12 fxCv3x21 fxCv3x26 fxCv3x96 fxCv3x108 fxCv3x115 fxCv3x117 fxCv3x124 fxCv5x2 fxCv5x3 fxCv5x5 fxCv5x12 fxCv5x21 fxCv5x26 fxCv5x96 fxCv5x108 fxCv5x115 fxCv5x117 fxCv5x124 fxCv12x2 fxCv12x3 fxCv12x5 fxCv12x12 fxCv12x21 fxCv12x26 fxCv12x96 fxCv12x108 fxCv12x115 fxCv12x117 fxCv12x124 fxCv21x2 fxCv21x3 fxCv21x5 fxCv21x12 fxCv21x21 fxCv21x26 fxCv21x96 fxCv21x108 fxCv21x115 fxCv21x117 fxCv21x124 fxCv26x2 fxCv26x3 fxCv26x5 fxCv26x12 fxCv26x21 fxCv26x26 fxCv26x96 fxCv26x108 fxCv26x115 fxCv26x117 fxCv26x124 fxCv96x2 fxCv96x3 fxCv96x5 fxCv96x12 fxCv96x21 fxCv96x26 fxCv96x96 fxCv96x108 fxCv96x115 fxCv96x117 fxCv96x124 fxCv108x2 fxCv108x3 fxCv108x5 fxCv108x12 fxCv108x21 fxCv108x26 fxCv108x96 fxCv108x108 fxCv108x115 fxCv108x117 fxCv108x124 fxCv115x2 fxCv115x3 fxCv115x5 fxCv115x12 fxCv115x21 fxCv115x26 fxCv115x96 fxCv115x108 fxCv115x115 fxCv115x117 fxCv115x124 fxCv117x2 fxCv117x3 fxCv117x5 fxCv117x12 fxCv117x21 fxCv117x26 fxCv117x96 fxCv117x108 fxCv117x115 fxCv117x117 fxCv117x124 fxCv124x2 fxCv124x3 fxCv124x5 fxCv124x12 fxCv124x21 fxCv124x26 fxCv124x96 fxCv124x108 fxCv124x115 fxCv124x117 fxCv124x124 fxEb4 fxNb4 fxLt9 fxLn22 fxNe22 fxNn22 fxOe22 fxOn22 fxXe22 fxXn22 fxLn48 fxNe48 fxNn48 fxOe48 fxOn48 fxXe48 fxXn48 fxLn49 fxNe49 fxNn49 fxOe49 fxOn49 fxXe49 fxXn49 fxLn59 fxNe59 fxNn59 fxOe59 fxOn59 fxXe59 fxXn59 fxLn63 fxNe63 fxNn63 fxOe63 fxOn63 fxXe63 fxXn63 fxLn75 fxNe75 fxNn75 fxOe75 fxOn75 fxXe75 fxXn75 fxFn3 fxFm3 fxFb3 fxFi3 fxFj3 fxFn4 fxFm4 fxFb4 fxFi4 fxFj4 fxFn5 fxFm5 fxFb5 fxFi5 fxFj5 fxFn6 fxFm6 fxFb6 fxFi6 fxFj6 fxFn7 fxFm7 fxFb7 fxFi7 fxFj7 fxFn8 fxFm8 fxFb8 fxFi8 fxFj8 fxFn9 fxFm9 fxFb9 fxFi9 fxFj9 fxFn10 fxFm10 fxFb10 fxFi10 fxFj10 fxFn11 fxFm11 fxFb11 fxFi11 fxFj11 fxFn12 fxFm12 fxFb12 fxFi12 fxFj12 fxFn13 fxFm13 fxFb13 fxFi13 fxFj13 fxFn14 fxFm14 fxFb14 fxFi14 fxFj14 fxFn15 fxFm15 fxFb15 fxFi15 fxFj15 fxFn16 fxFm16 fxFb16 fxFi16 fxFj16 fxFn17 fxFm17 fxFb17 fxFi17 fxFj17 fxFn18 fxFm18 fxFb18 fxFi18 fxFj18 fxFn19 fxFm19 fxFb19 fxFi19 fxFj19 fxFn20 fxFm20 fxFb20 fxFi20 fxFj20 fxFn21 fxFm21 fxFb21 fxFi21 fxFj21 fxFn22 fxFm22 fxFb22 fxFi22 fxFj22 fxFn23 fxFm23 fxFb23 fxFi23 fxFj23 fxFn24 fxFm24 fxFb24 fxFi24 fxFj24 fxFn25 fxFm25 fxFb25 fxFi25 fxFj25 fxFn26 fxFm26 fxFb26 fxFi26 fxFj26 fxFn27 fxFm27 fxFb27 fxFi27 fxFj27 fxFn28 fxFm28 fxFb28 fxFi28 fxFj28 fxFn29 fxFm29 fxFb29 fxFi29 fxFj29 fxFn30 fxFm30 fxFb30 fxFi30 fxFj30 fxFn31 fxFm31 fxFb31 fxFi31 fxFj31 fxFn32 fxFm32 fxFb32 fxFi32 fxFj32 fxFn33 fxFm33 fxFb33 fxFi33 fxFj33 fxFn34 fxFm34 fxFb34 fxFi34 fxFj34 fxFn35 fxFm35 fxFb35 fxFi35 fxFj35 fxFn36 fxFm36 fxFb36 fxFi36 fxFj36 fxFn37 fxFm37 fxFb37 fxFi37 fxFj37 fxFn38 fxFm38 fxFb38 fxFi38 fxFj38 fxFn39 fxFm39 fxFb39 fxFi39 fxFj39 fxFn40 fxFm40 fxFb40 fxFi40 fxFj40 fxFn41 fxFm41 fxFb41 fxFi41 fxFj41 fxFn42 fxFm42 fxFb42 fxFi42 fxFj42 fxFn43 fxFm43 fxFb43 fxFi43 fxFj43 fxFn44 fxFm44 fxFb44 fxFi44 fxFj44 fxFn45 fxFm45 fxFb45 fxFi45 fxFj45 fxFn46 fxFm46 fxFb46 fxFi46 fxFj46 fxFn47 fxFm47 fxFb47 fxFi47 fxFj47 fxFn48 fxFm48 fxFb48 fxFi48 fxFj48 fxFn49 fxFm49 fxFb49 fxFi49 fxFj49 fxFn50 fxFm50 fxFb50 fxFi50 fxFj50 fxFn51 fxFm51 fxFb51 fxFi51 fxFj51 fxFn52 fxFm52 fxFb52 fxFi52 fxFj52 fxFn53 fxFm53 fxFb53 fxFi53 fxFj53 fxFn54 fxFm54 fxFb54 fxFi54 fxFj54 fxFn55 fxFm55 fxFb55 fxFi55 fxFj55 fxFn56 fxFm56 fxFb56 fxFi56 fxFj56 fxFn57 fxFm57 fxFb57 fxFi57 fxFj57 fxFn58 fxFm58 fxFb58 fxFi58 fxFj58 fxFn59 fxFm59 fxFb59 fxFi59 fxFj59 fxFn60 fxFm60 fxFn61 fxFm61 fxFb61 fxFi61 fxFj61 fxFn62 fxFm62 fxFb62 fxFi62 fxFj62 fxFn63 fxFm63 fxFb63 fxFi63 fxFj63 fxFn64 fxFm64 fxFb64 fxFi64 fxFj64 fxFn65 fxFm65 fxFb65 fxFi65 fxFj65 fxFn66 fxFm66 fxFb66 fxFi66 fxFj66 fxFn67 fxFm67 fxFb67 fxFi67 fxFj67 fxFn68 fxFm68 fxFb68 fxFi68 fxFj68 fxFn69 fxFm69 fxFb69 fxFi69 fxFj69 fxFn70 fxFm70 fxFb70 fxFi70 fxFj70 fxFn71 fxFm71 fxFb71 fxFi71 fxFj71 fxFn72 fxFm72 fxFb72 fxFi72 fxFj72 fxFn73 fxFm73 fxFb73 fxFi73 fxFj73 fxFn74 fxFm74 fxFb74 fxFi74 fxFj74 fxFn75 fxFm75 fxFb75 fxFi75 fxFj75 fxFn76 fxFm76 fxFb76 fxFi76 fxFj76 fxFn77 fxFm77 fxFb77 fxFi77 fxFj77 fxFn78 fxFm78 fxFb78 fxFi78 fxFj78 fxFn79 fxFm79 fxFb79 fxFi79 fxFj79 fxFn80 fxFm80 fxFb80 fxFi80 fxFj80 fxFn81 fxFm81 fxFb81 fxFi81 fxFj81 fxFn82 fxFm82 fxFb82 fxFi82 fxFj82 fxFn83 fxFm83 fxFb83 fxFi83 fxFj83 fxFn84 fxFm84 fxFb84 fxFi84 fxFj84 fxFn85 fxFm85 fxFb85 fxFi85 fxFj85 fxFn86 fxFm86 fxFb86 fxFi86 fxFj86 fxFn87 fxFm87 fxFb87 fxFi87 fxFj87 fxFn88 fxFm88 fxFb88 fxFi88 fxFj88 fxFn89 fxFm89 fxFb89 fxFi89 fxFj89 fxFn90 fxFm90 fxFb90 fxFi90 fxFj90 fxFn91 fxFm91 fxFb91 fxFi91 fxFj91 fxFn92 fxFm92 fxFb92 fxFi92 fxFj92 fxFn93 fxFm93 fxFb93 fxFi93 fxFj93 fxFn94 fxFm94 fxFb94 fxFi94 fxFj94 fxFn95 fxFm95 fxFb95 fxFi95 fxFj95 fxFn96 fxFm96 fxFb96 fxFi96 fxFj96 fxFn97 fxFm97 fxFb97 fxFi97 fxFj97 fxFn98 fxFm98 fxFb98 fxFi98 fxFj98 fxFn99 fxFm99 fxFb99 fxFi99 fxFj99 fxFn100 fxFm100 fxFb100 fxFi100 fxFj100 fxFn101 fxFm101 fxFb101 fxFi101 fxFj101
attribute [local simp] Pg.eta Pg.cold Pg.mapM Pg.mapMc Pg.view Pg.viewc Pg.hotR Pg.ren Pg.renc Pg.low Pg.tau Pg.tauc Pg.bare Pg.flat Pg.flat1 Pg.mapMt Pg.mapMd Pg.coldt Pg.coldd Pg.hotRt Pg.hotRd
attribute [local simp] Pp.eta Pp.cold Pp.mapM Pp.mapMc Pp.view Pp.viewc Pp.hotR Pp.ren Pp.renc Pp.low Pp.tau Pp.tauc Pp.bare Pp.flat Pp.flat1 Pp.mapMt Pp.mapMd Pp.coldt Pp.coldd Pp.hotRt Pp.hotRd
attribute [local simp] Ca.eta Ca.dec_row Ca.dec_hrow Ca.cold Ca.hcold Ca.mapM Ca.mapMc Ca.hmapM Ca.hmapMc Ca.view Ca.viewc Ca.hview Ca.hviewc Ca.hotR Ca.ren Ca.renc Ca.low Ca.hlow
def ppV (p : Pp) : Value := .agg #[.int .i64 p.file, .int .i64 p.n, .int .i64 p.maps, .int .i64 p.dirty, .int .u8 p.data.b0, .int .u8 p.data.b1, .int .u8 p.data.b2, .int .u8 p.data.b3, .int .u8 p.data.b4, .int .u8 p.data.b5, .int .u8 p.data.b6, .int .u8 p.data.b7, .int .u8 p.data.b8, .int .u8 p.data.b9, .int .u8 p.data.b10, .int .u8 p.data.b11, .int .u8 p.data.b12, .int .u8 p.data.b13, .int .u8 p.data.b14, .int .u8 p.data.b15]
def backE (c : Ca) : AVal :=
  if caCheck c = 0 then
    (match caBest c.pages with
    | none => .tup [.agg [if c.pages = [] then .esl else .fsl true 20 (c.pages.map Pp.row), .v (.int .i64 c.clock)], .v (ppV noPp), .v (.bool false), .v (.int .i64 0)]
    | some i => .tup [caV (c.pages.set i (cleanP ((c.pages[i]?).getD noPp))) c.clock, .v (ppV ((c.pages[i]?).getD noPp)), .v (.bool true), .v (.int .i64 0)])
  else .v (.tuple #[.agg #[.slice none 0 0, .int .i64 0], ppV noPp, .bool false, .int .i64 (caCheck c)])
def BestInv (l : List Pp) (k : Nat) (b : Int) : Prop :=
  (b = -1 ∧ ∀ j (hj : j < l.length), j < k → ¬ 0 < l[j].dirty) ∨ (∃ (m : Nat) (hm : m < l.length), b = m ∧ m < k ∧ 0 < l[m].dirty ∧ ∀ j (hj : j < l.length), j < k → 0 < l[j].dirty → l[m].dirty ≤ l[j].dirty)
theorem BestInv.skip {l : List Pp} {k : Nat} {b : Int} (hk : k < l.length) (h : BestInv l k b) (h0 : ¬ 0 < l[k].dirty) : BestInv l (k + 1) b := by
  rcases h with ⟨h1, h2⟩ | ⟨m, hm, h1, h2, h3, h4⟩
  · refine .inl ⟨h1, fun j hj hjk => ?_⟩
    by_cases e : j = k
    · subst e; exact h0
    · exact h2 j hj (by omega)
  · refine .inr ⟨m, hm, h1, by omega, h3, fun j hj hjk hd => ?_⟩
    by_cases e : j = k
    · subst e; exact absurd hd h0
    · exact h4 j hj (by omega) hd
theorem BestInv.new {l : List Pp} {k : Nat} {b : Int} (hk : k < l.length) (h : BestInv l k b) (h0 : 0 < l[k].dirty) (hb : b < 0 ∨ ∃ (m : Nat) (hm : m < l.length), b = m ∧ l[k].dirty < l[m].dirty) : BestInv l (k + 1) k := by
  refine .inr ⟨k, hk, rfl, by omega, h0, fun j hj hjk hd => ?_⟩
  by_cases e : j = k
  · subst e; exact Int.le_refl _
  · rcases h with ⟨h1, h2⟩ | ⟨m, hm, h1, h2, h3, h4⟩
    · exact absurd hd (h2 j hj (by omega))
    · have a1 := h4 j hj (by omega) hd
      rcases hb with hb | ⟨m', hm', hb, hlt⟩
      · omega
      · have : m' = m := by omega
        subst this
        omega
theorem BestInv.keep {l : List Pp} {k m : Nat} (hk : k < l.length) (hm : m < l.length) (h : BestInv l k m) (hlt : ¬ l[k].dirty < l[m].dirty) : BestInv l (k + 1) m := by
  rcases h with ⟨h1, _⟩ | ⟨m', hm', h1, h2, h3, h4⟩
  · omega
  · have : m' = m := by omega
    subst this
    refine .inr ⟨m', hm', rfl, by omega, h3, fun j hj hjk hd => ?_⟩
    by_cases e : j = k
    · subst e; omega
    · exact h4 j hj (by omega) hd
theorem BestInv.last {l : List Pp} {b : Int} (hd : l.Pairwise DfK) (h : BestInv l l.length b) : (b = -1 ∧ caBest l = none) ∨ ∃ (m : Nat) (hm : m < l.length), b = m ∧ caBest l = some m := by
  rcases h with ⟨h1, h2⟩ | ⟨m, hm, h1, h2, h3, h4⟩
  · exact .inl ⟨h1, best_nil fun j hj => h2 j hj hj⟩
  · exact .inr ⟨m, hm, h1, best_is hd hm h3 fun j hj => h4 j hj hj⟩
theorem back_pure : PureOk Try.prog 14 (argM (cAgg rCa) fun c => finM (some (backE c))) := by
  refine pure1 Try.func14 rfl ?_
  rintro c r hr
  simp only [Option.some.injEq] at hr
  subst hr
  refine body_gen ((((noOrc_ok.withP caCheck_pure).withP with_pure).withIF clPp clone_loc).withD (fun i => if i = 12 then [(2,4)] else if i = 16 then [(4,5)] else [])) fxMix (by kernel_rfl) (by simp [Try.ntmps14]) ?_
  intro C cP cI cN cD cF cA
  have cp0 := orcP caCheck_pure (C := C) (by rw [cP]; rfl)
  have cp1 := orcP with_pure (C := C) (by rw [cP]; rfl)
  have cn0 := orcI clPp (C := C) (by rw [cN]; rfl)
  replace cI := fun g => congrFun cI g
  simp only [Orc.withP, Orc.withI, Orc.withF, Orc.withD, Orc.withA, noOrc] at cI
  replace cD : C.dyn = fun i => if i = 12 then [(2,4)] else if i = 16 then [(4,5)] else [] := cD
  replace cF := fun g => congrFun cF g
  simp only [Orc.withP, Orc.withI, Orc.withF, Orc.withD, Orc.withA, noOrc] at cF
  replace cA : C.alt = fun _ => [] := cA
  clear cP cN
  unfold backE
  by_cases h0 : caCheck c = 0
  case neg =>
    obtain ⟨l, T⟩ := c
    simp [Try.ntmps14, Try.results14, cSl, cp0, cp1, cn0, cI, cD, cF, cA, rCa, caDec, Ca.row, rPp, Pp.row, ppDec, h0, ppV, noPp, noPg]
    done
  have g := caCheck_iff.1 h0
  have hl64 := g.len
  have hdf := g.diff
  obtain ⟨l, T⟩ := c
  simp only at hl64 hdf ⊢
  simp [Try.ntmps14, Try.results14, cSl, cp0, cp1, cn0, cI, cD, cF, cA, rCa, caDec, Ca.row, rPp, ppDec, h0]
  refine loop_for l.length (fun k (b : Int) => ([(1, .ptr 0 2 0 0), (2, .ptr 1 2 0 0), (3, .ptr 2 20 0 0), (7, .v (.int .i64 b)), (20, .fsl false 20 (l.map Pp.row)), (21, .v (.int .i64 l.length)), (22, .v (.int .i64 k))], [some (2, [[.fsl false 20 (l.map Pp.row), .v (.int .i64 T)]]), some (2, [[.v (.slice none 0 0), .v (.int .i64 0)]]), some (20, [noPp.row])])) (fun k b => BestInv l k b) (-1) (by omega) (.inl ⟨rfl, fun j _ h => by omega⟩) (by simp [noPp, noPg, Pp.row]) ?_ ?_
  · rintro k b hk hinv hw
    by_cases d0 : 0 < l[k].dirty
    case neg =>
      have hn := hinv.skip hk d0
      rcases hinv with ⟨rfl, h2⟩ | ⟨m, hm, rfl, h2, h3, h4⟩
      · simp [Try.ntmps14, Try.results14, cSl, cp0, cp1, cn0, cI, cD, cF, cA, rCa, caDec, Ca.row, rPp, Pp.row, ppDec, noPp, noPg, hk, hw, d0]
        exact hn
      · have hm0 : ¬ (m : Int) < 0 := by omega
        simp [Try.ntmps14, Try.results14, cSl, cp0, cp1, cn0, cI, cD, cF, cA, rCa, caDec, Ca.row, rPp, Pp.row, ppDec, noPp, noPg, hk, hw, d0, hm, hm0]
        exact hn
    have hnew := hinv.new hk d0
    rcases id hinv with ⟨rfl, h2⟩ | ⟨m, hm, rfl, h2, h3, h4⟩
    · have hn := hnew (.inl (by omega))
      simp [Try.ntmps14, Try.results14, cSl, cp0, cp1, cn0, cI, cD, cF, cA, rCa, caDec, Ca.row, rPp, Pp.row, ppDec, noPp, noPg, hk, hw, d0]
      exact hn
    · have hm0 : ¬ (m : Int) < 0 := by omega
      by_cases hlt : l[k].dirty < l[m].dirty
      · have hn := hnew (.inr ⟨m, hm, rfl, hlt⟩)
        simp [Try.ntmps14, Try.results14, cSl, cp0, cp1, cn0, cI, cD, cF, cA, rCa, caDec, Ca.row, rPp, Pp.row, ppDec, noPp, noPg, hk, hw, d0, hm, hm0, hlt]
        exact hn
      · have hn := hinv.keep hk hm hlt
        simp [Try.ntmps14, Try.results14, cSl, cp0, cp1, cn0, cI, cD, cF, cA, rCa, caDec, Ca.row, rPp, Pp.row, ppDec, noPp, noPg, hk, hw, d0, hm, hm0, hlt]
        exact hn
  · rintro b hinv
    rcases hinv.last hdf with ⟨rfl, hb⟩ | ⟨m, hm, rfl, hb⟩
    · by_cases hn : l = []
      · subst hn
        simp [Try.ntmps14, Try.results14, cSl, cp0, cp1, cn0, cI, cD, cF, cA, rCa, caDec, Ca.row, rPp, Pp.row, ppDec, hb, cloneI, ppV, noPp, noPg]
        done
      · have hl2 : l.length ≤ 4294967296 := by omega
        simp [Try.ntmps14, Try.results14, cSl, cp0, cp1, cn0, cI, cD, cF, cA, rCa, caDec, Ca.row, rPp, Pp.row, ppDec, hb, cloneI, hn, hl2, ppV, noPp, noPg]
        done
    · have hm0 : ¬ (m : Int) < 0 := by omega
      simp [Try.ntmps14, Try.results14, cSl, cp0, cp1, cn0, cI, cD, cF, cA, rCa, caDec, Ca.row, rPp, Pp.row, ppDec, hb, hm, hm0, hl64, ppV, noPp, noPg, caV, cleanP]
      done
end Go.Proofs.Ytdhkhnegnlmgiaa
