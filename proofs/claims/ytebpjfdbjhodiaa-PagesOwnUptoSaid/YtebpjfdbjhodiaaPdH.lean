/- ringkeep2.PagesOwn. ringkeep2.PagesOwn. -/
import Derived.Test.YtebpjfdbjhodiaaPdF
import Derived.Test.YtebpjfdbjhodiaaAiZi
import Derived.Test.YtebpjfdbjhodiaaPaA
namespace Go.Proofs.Ytebpjfdbjhodiaa
open Go.AI
set_option linter.unusedSimpArgs false
set_option linter.unusedVariables false
section
set_option maxHeartbeats 2000000
set_option maxRecDepth 100000
set_option linter.unusedSimpArgs false
set_option linter.unusedVariables false
attribute [local simp] wpA wpX RunA RunD runF foot footP footB idsA bare apart runL step1 gsel_f gsel_t gsel_s res_same res_and1 res_and2 res_and3 res_and4 res_and5 res_and6 res_false res_true res_v res_ptr res_fptr res_osl res_xsl soft aAppendZ aCap ovlI ovlJ res_fsl res_esl res_agg res_tup res_fn res_junk res_anyb aPick hk imp_left iteV dstOk guardOk astep astepE AI.ev AI.look AI.put envOf aBox cellsOf allOne allOneA oneA Value.oneCell' Value.cells newObj' aFieldAddr aLoad obj readAt thenA blockA condA retA resA tupA view hot hotC hotR depthV cAgg cInt cBool mkAgg allV aAlloc aBuild fillA writeAt aStore isAggA aField idx aIndexAddr aIndex bnd aSlice aExtract aLen aBuiltin aCall isStatic eqAgg eqTy eqC ev_add ev_sub ev_mul ev_quo ev_rem ev_and ev_or ev_xor ev_andNot ev_shl ev_shr ev_eql ev_neq ev_lss ev_leq ev_gtr ev_geq ev_agg w64 wu32 wu8 ev_not ev_neg Cod.plain RCod.plain argM finM cold coldC coldR goInt intDec boolDec aggDec Weaker heapW lowA lowC Again slDec undef aBuildSlice setRows aAppend rowsOf aMakeSlice aClear aCopy softer_self softer_nil valsOf ev_min2 ev_max2 hotR_set hotR_append take_map_set irow_cold irow_mapM irow_mapMc irow_view irow_viewc irow_hotR irow_ren irow_renc irow_low WeakT heapT thOf ren renC AgainT NextF NextT fnDec cFn rNil selfLt natLt0 natLt1 getLastMap frame0 frame1 own0 own1 argG finG tau tauI tauO tauC bareA bareC bareH irow_tau irow_tauc irow_bare irow_flat irow_bareR ownA_nil ownT_nil ownA_c ownT_c ownA_s ownT_s takeMapLen footC plainA noId noIdC cloneF frame0F frame1F insertF replaceI replaceF cellDec rCell fpDec cFp rTwo deleteF allV_oA oneA_oA res_oA RunR RunE runFT footAt hotR_cat tmodN aEqH aSliceA fxSz2 fxBy2 fxAg2 fxZe2 fxSl2 fxAr2 fxPl2 fxSz3 fxBy3 fxAg3 fxZe3 fxSl3 fxAr3 fxPl3 fxSz4 fxBy4 fxAg4 fxZe4 fxSl4 fxAr4 fxPl4 fxSz5 fxBy5 fxAg5 fxZe5 fxSl5 fxAr5 fxPl5 fxSz9 fxBy9 fxAg9 fxZe9 fxSl9 fxAr9 fxPl9 fxSz12 fxBy12 fxAg12 fxZe12 fxSl12 fxAr12 fxPl12 fxSz13 fxBy13 fxAg13 fxZe13 fxSl13 fxAr13 fxFi13x0 fxFi13x1 fxPl13 fxSz21 fxBy21 fxAg21 fxZe21 fxSl21 fxAr21 fxPl21 fxSz22 fxBy22 fxAg22 fxZe22 fxSl22 fxAr22 fxPl22 fxSz23 fxBy23 fxAg23 fxZe23 fxSl23 fxAr23 fxFi23x0 fxFi23x1 fxPl23 fxSz24 fxBy24 fxAg24 fxZe24 fxSl24 fxAr24 fxFi24x0 fxFi24x1 fxPl24 fxSz25 fxBy25 fxAg25 fxZe25 fxSl25 fxAr25 fxFi25x0 fxFi25x1 fxFi25x2 fxPl25 fxSz26 fxBy26 fxAg26 fxZe26 fxSl26 fxAr26 fxFi26x0 fxFi26x1 fxFi26x2 fxPl26 fxSz27 fxBy27 fxAg27 fxZe27 fxSl27 fxAr27 fxPl27 fxSz28 fxBy28 fxAg28 fxZe28 fxSl28 fxAr28 fxFi28x0 fxFi28x1 fxPl28 fxSz29 fxBy29 fxAg29 fxZe29 fxSl29 fxAr29 fxFi29x0 fxFi29x1 fxPl29 fxSz33 fxBy33 fxAg33 fxZe33 fxSl33 fxAr33 fxPl33 fxSz34 fxBy34 fxAg34 fxZe34 fxSl34 fxAr34 fxFi34x0 fxFi34x1 fxFi34x2 fxFi34x3 fxFi34x4 fxPl34 fxSz35 fxBy35 fxAg35 fxZe35 fxSl35 fxAr35 fxFi35x0 fxFi35x1 fxFi35x2 fxFi35x3 fxFi35x4 fxPl35 fxSz38 fxBy38 fxAg38 fxZe38 fxSl38 fxAr38 fxPl38 fxSz50 fxBy50 fxAg50 fxZe50 fxSl50 fxAr50 fxPl50 fxSz51 fxBy51 fxAg51 fxZe51 fxSl51 fxAr51 fxPl51 fxSz53 fxBy53 fxAg53 fxZe53 fxSl53 fxAr53 fxPl53 fxSz54 fxBy54 fxAg54 fxZe54 fxSl54 fxAr54 fxFi54x0 fxFi54x1 fxPl54 fxSz55 fxBy55 fxAg55 fxZe55 fxSl55 fxAr55 fxFi55x0 fxFi55x1 fxPl55 fxSz56 fxBy56 fxAg56 fxZe56 fxSl56 fxAr56 fxPl56 fxSz57 fxBy57 fxAg57 fxZe57 fxSl57 fxAr57 fxPl57 fxSz58 fxBy58 fxAg58 fxZe58 fxSl58 fxAr58 fxFi58x0 fxFi58x1 fxFi58x2 fxFi58x3 fxFi58x4 fxFi58x5 fxFi58x6 fxPl58 fxSz59 fxBy59 fxAg59 fxZe59 fxSl59 fxAr59 fxFi59x0 fxFi59x1 fxFi59x2 fxFi59x3 fxFi59x4 fxFi59x5 fxFi59x6 fxPl59 fxSz60 fxBy60 fxAg60 fxZe60 fxSl60 fxAr60 fxPl60 fxSz61 fxBy61 fxAg61 fxZe61 fxSl61 fxAr61 fxFi61x0 fxFi61x1 fxPl61 fxSz62 fxBy62 fxAg62 fxZe62 fxSl62 fxAr62 fxFi62x0 fxFi62x1 fxPl62 fxSz63 fxBy63 fxAg63 fxZe63 fxSl63 fxAr63 fxPl63 fxSz64 fxBy64 fxAg64 fxZe64 fxSl64 fxAr64 fxFi64x0 fxFi64x1 fxFi64x2 fxPl64 fxSz65 fxBy65 fxAg65 fxZe65 fxSl65 fxAr65 fxFi65x0 fxFi65x1 fxFi65x2 fxPl65 fxSz66 fxBy66 fxAg66 fxZe66 fxSl66 fxAr66 fxPl66 fxSz68 fxBy68 fxAg68 fxZe68 fxSl68 fxAr68 fxPl68 fxSz69 fxBy69 fxAg69 fxZe69 fxSl69 fxAr69 fxPl69 fxSz70 fxBy70 fxAg70 fxZe70 fxSl70 fxAr70 fxPl70 fxSz71 fxBy71 fxAg71 fxZe71 fxSl71 fxAr71 fxFi71x0 fxFi71x1 fxPl71 fxSz72 fxBy72 fxAg72 fxZe72 fxSl72 fxAr72 fxFi72x0 fxFi72x1 fxPl72 fxSz74 fxBy74 fxAg74 fxZe74 fxSl74 fxAr74 fxPl74 fxSz75 fxBy75 fxAg75 fxZe75 fxSl75 fxAr75 fxFi75x0 fxFi75x1 fxFi75x2 fxPl75 fxSz76 fxBy76 fxAg76 fxZe76 fxSl76 fxAr76 fxFi76x0 fxFi76x1 fxFi76x2 fxPl76 fxSz92 fxBy92 fxAg92 fxZe92 fxSl92 fxAr92 fxPl92 fxSz93 fxBy93 fxAg93 fxZe93 fxSl93 fxAr93 fxPl93 fxSz94 fxBy94 fxAg94 fxZe94 fxSl94 fxAr94 fxPl94 fxSz96 fxBy96 fxAg96 fxZe96 fxSl96 fxAr96 fxPl96 fxSz97 fxBy97 fxAg97 fxZe97 fxSl97 fxAr97 fxPl97 fxSz98 fxBy98 fxAg98 fxZe98 fxSl98 fxAr98 fxFi98x0 fxFi98x1 fxPl98 fxSz99 fxBy99 fxAg99 fxZe99 fxSl99 fxAr99 fxFi99x0 fxFi99x1 fxPl99 fxSz100 fxBy100 fxAg100 fxZe100 fxSl100 fxAr100 fxPl100 fxSz101 fxBy101 fxAg101 fxZe101 fxSl101 fxAr101 fxFi101x0 fxFi101x1 fxPl101 fxSz102 fxBy102 fxAg102 fxZe102 fxSl102 fxAr102 fxFi102x0 fxFi102x1 fxPl102 fxSz103 fxBy103 fxAg103 fxZe103 fxSl103 fxAr103 fxFi103x0 fxFi103x1 fxPl103 fxSz104 fxBy104 fxAg104 fxZe104 fxSl104 fxAr104 fxFi104x0 fxFi104x1 fxPl104 fxSz106 fxBy106 fxAg106 fxZe106 fxSl106 fxAr106 fxFi106x0 fxFi106x1 fxFi106x2 fxPl106 fxSz107 fxBy107 fxAg107 fxZe107 fxSl107 fxAr107 fxFi107x0 fxFi107x1 fxFi107x2 fxPl107 fxSz109 fxBy109 fxAg109 fxZe109 fxSl109 fxAr109 fxFi109x0 fxFi109x1 fxPl109 fxSz110 fxBy110 fxAg110 fxZe110 fxSl110 fxAr110 fxFi110x0 fxFi110x1 fxPl110 fxSz111 fxBy111 fxAg111 fxZe111 fxSl111 fxAr111 fxPl111 fxSz112 fxBy112 fxAg112 fxZe112 fxSl112 fxAr112 fxPl112 fxSz113 fxBy113 fxAg113 fxZe113 fxSl113 fxAr113 fxFi113x0 fxFi113x1 fxPl113 fxSz114 fxBy114 fxAg114 fxZe114 fxSl114 fxAr114 fxFi114x0 fxFi114x1 fxPl114 fxSz131 fxBy131 fxAg131 fxZe131 fxSl131 fxAr131 fxPl131 fxSz132 fxBy132 fxAg132 fxZe132 fxSl132 fxAr132 fxPl132 fxSz133 fxBy133 fxAg133 fxZe133 fxSl133 fxAr133 fxPl133 fxSz135 fxBy135 fxAg135 fxZe135 fxSl135 fxAr135 fxPl135 fxSz136 fxBy136 fxAg136 fxZe136 fxSl136 fxAr136 fxFi136x0 fxFi136x1 fxFi136x2 fxPl136 fxSz137 fxBy137 fxAg137 fxZe137 fxSl137 fxAr137 fxFi137x0 fxFi137x1 fxFi137x2 fxPl137 fxSz138 fxBy138 fxAg138 fxZe138 fxSl138 fxAr138 fxPl138 fxSz139 fxBy139 fxAg139 fxZe139 fxSl139 fxAr139 fxFi139x0 fxFi139x1 fxPl139 fxSz140 fxBy140 fxAg140 fxZe140 fxSl140 fxAr140 fxFi140x0 fxFi140x1 fxPl140 fxSz141 fxBy141 fxAg141 fxZe141 fxSl141 fxAr141 fxPl141 fxSz145 fxBy145 fxAg145 fxZe145 fxSl145 fxAr145 fxFi145x0 fxFi145x1 fxPl145 fxSz146 fxBy146 fxAg146 fxZe146 fxSl146 fxAr146 fxFi146x0 fxFi146x1 fxPl146 fxSz165 fxBy165 fxAg165 fxZe165 fxSl165 fxAr165 fxPl165 fxSz166 fxBy166 fxAg166 fxZe166 fxSl166 fxAr166 fxPl166 fxSz167 fxBy167 fxAg167 fxZe167 fxSl167 fxAr167 fxPl167 fxSz169 fxBy169 fxAg169 fxZe169 fxSl169 fxAr169 fxPl169 fxSz170 fxBy170 fxAg170 fxZe170 fxSl170 fxAr170 fxPl170 fxSz171 fxBy171 fxAg171 fxZe171 fxSl171 fxAr171 fxPl171 fxSz183 fxBy183 fxAg183 fxZe183 fxSl183 fxAr183 fxPl183 fxSz208 fxBy208 fxAg208 fxZe208 fxSl208 fxAr208 fxPl208 fxSz262 fxBy262 fxAg262 fxZe262 fxSl262 fxAr262 fxPl262 fxSz283 fxBy283 fxAg283 fxZe283 fxSl283 fxAr283 fxPl283 fxSz294 fxBy294 fxAg294 fxZe294 fxSl294 fxAr294 fxPl294 fxSz295 fxBy295 fxAg295 fxZe295 fxSl295 fxAr295 fxPl295 fxSz296 fxBy296 fxAg296 fxZe296 fxSl296 fxAr296 fxPl296 fxSz299 fxBy299 fxAg299 fxZe299 fxSl299 fxAr299 fxPl299 fxSz307 fxBy307 fxAg307 fxZe307 fxSl307 fxAr307 fxPl307 fxSz308 fxBy308 fxAg308 fxZe308 fxSl308 fxAr308 fxPl308 fxSz316 fxBy316 fxAg316 fxZe316 fxSl316 fxAr316 fxPl316 fxSz320 fxBy320 fxAg320 fxZe320 fxSl320 fxAr320 fxPl320 fxSz324 fxBy324 fxAg324 fxZe324 fxSl324 fxAr324 fxPl324 fxSz330 fxBy330 fxAg330 fxZe330 fxSl330 fxAr330 fxPl330 fxSz331 fxBy331 fxAg331 fxZe331 fxSl331 fxAr331 fxFi331x0 fxPl331 fxSz337 fxBy337 fxAg337 fxZe337 fxSl337 fxAr337 fxPl337 fxSz342 fxBy342 fxAg342 fxZe342 fxSl342 fxAr342 fxPl342 fxEq26 fxEq33 fxEq35 fxEq59 fxEq62 fxEq65 fxEq76 fxEq104 fxEq107 fxEq110 fxEq137 fxEq146 fxEq171 fxEq296 fxCv2x2 fxCv2x3 fxCv2x5 fxCv2x12 fxCv2x21 fxCv2x38 fxCv2x74 fxCv2x283 fxCv2x299 fxCv2x307 fxCv2x316 fxCv3x2 fxCv3x3 fxCv3x5 fxCv3x12 fxCv3x21 fxCv3x38 fxCv3x74 fxCv3x283 fxCv3x299 fxCv3x307 fxCv3x316 fxCv5x2 fxCv5x3 fxCv5x5 fxCv5x12 fxCv5x21 fxCv5x38 fxCv5x74 fxCv5x283 fxCv5x299 fxCv5x307 fxCv5x316 fxCv12x2 fxCv12x3 fxCv12x5 fxCv12x12 fxCv12x21 fxCv12x38 fxCv12x74 fxCv12x283 fxCv12x299 fxCv12x307 fxCv12x316 fxCv21x2 fxCv21x3 fxCv21x5 fxCv21x12 fxCv21x21 fxCv21x38 fxCv21x74 fxCv21x283 fxCv21x299 fxCv21x307 fxCv21x316 fxCv38x2 fxCv38x3 fxCv38x5 fxCv38x12 fxCv38x21 fxCv38x38 fxCv38x74 fxCv38x283 fxCv38x299 fxCv38x307 fxCv38x316 fxCv74x2 fxCv74x3 fxCv74x5 fxCv74x12 fxCv74x21 fxCv74x38 fxCv74x74 fxCv74x283 fxCv74x299 fxCv74x307 fxCv74x316 fxCv283x2 fxCv283x3 fxCv283x5 fxCv283x12 fxCv283x21 fxCv283x38 fxCv283x74 fxCv283x283 fxCv283x299 fxCv283x307 fxCv283x316 fxCv299x2 fxCv299x3 fxCv299x5 fxCv299x12 fxCv299x21 fxCv299x38 fxCv299x74 fxCv299x283 fxCv299x299 fxCv299x307 fxCv299x316 fxCv307x2 fxCv307x3 fxCv307x5 fxCv307x12 fxCv307x21 fxCv307x38 fxCv307x74 fxCv307x283 fxCv307x299 fxCv307x307 fxCv307x316 fxCv316x2 fxCv316x3 fxCv316x5 fxCv316x12 fxCv316x21 fxCv316x38 fxCv316x74 fxCv316x283 fxCv316x299 fxCv316x307 fxCv316x316 fxEb4 fxNb4 fxLt9 fxLn22 fxNe22 fxNn22 fxOe22 fxOn22 fxXe22 fxXn22 fxLn27 fxNe27 fxNn27 fxOe27 fxOn27 fxXe27 fxXn27 fxLn53 fxNe53 fxNn53 fxOe53 fxOn53 fxXe53 fxXn53 fxLn60 fxNe60 fxNn60 fxOe60 fxOn60 fxXe60 fxXn60 fxLn63 fxNe63 fxNn63 fxOe63 fxOn63 fxXe63 fxXn63 fxLn66 fxNe66 fxNn66 fxOe66 fxOn66 fxXe66 fxXn66 fxLn68 fxNe68 fxNn68 fxOe68 fxOn68 fxXe68 fxXn68 fxLn69 fxNe69 fxNn69 fxOe69 fxOn69 fxXe69 fxXn69 fxLn70 fxNe70 fxNn70 fxOe70 fxOn70 fxXe70 fxXn70 fxLn96 fxNe96 fxNn96 fxOe96 fxOn96 fxXe96 fxXn96 fxLn97 fxNe97 fxNn97 fxOe97 fxOn97 fxXe97 fxXn97 fxLn100 fxNe100 fxNn100 fxOe100 fxOn100 fxXe100 fxXn100 fxLn111 fxNe111 fxNn111 fxOe111 fxOn111 fxXe111 fxXn111 fxLn112 fxNe112 fxNn112 fxOe112 fxOn112 fxXe112 fxXn112 fxLn135 fxNe135 fxNn135 fxOe135 fxOn135 fxXe135 fxXn135 fxLn138 fxNe138 fxNn138 fxOe138 fxOn138 fxXe138 fxXn138 fxLn141 fxNe141 fxNn141 fxOe141 fxOn141 fxXe141 fxXn141 fxLn169 fxNe169 fxNn169 fxOe169 fxOn169 fxXe169 fxXn169 fxLn170 fxNe170 fxNn170 fxOe170 fxOn170 fxXe170 fxXn170 fxLn308 fxNe308 fxNn308 fxOe308 fxOn308 fxXe308 fxXn308 fxFn3 fxFm3 fxFb3 fxFi3 fxFj3 fxFn4 fxFm4 fxFb4 fxFi4 fxFj4 fxFn5 fxFm5 fxFb5 fxFi5 fxFj5 fxFn6 fxFm6 fxFb6 fxFi6 fxFj6 fxFn7 fxFm7 fxFb7 fxFi7 fxFj7 fxFn8 fxFm8 fxFb8 fxFi8 fxFj8 fxFn9 fxFm9 fxFb9 fxFi9 fxFj9 fxFn10 fxFm10 fxFb10 fxFi10 fxFj10 fxFn11 fxFm11 fxFb11 fxFi11 fxFj11 fxFn12 fxFm12 fxFb12 fxFi12 fxFj12 fxFn13 fxFm13 fxFb13 fxFi13 fxFj13 fxFn14 fxFm14 fxFb14 fxFi14 fxFj14 fxFn15 fxFm15 fxFb15 fxFi15 fxFj15 fxFn16 fxFm16 fxFb16 fxFi16 fxFj16 fxFn17 fxFm17 fxFb17 fxFi17 fxFj17 fxFn18 fxFm18 fxFb18 fxFi18 fxFj18 fxFn19 fxFm19 fxFb19 fxFi19 fxFj19 fxFn20 fxFm20 fxFb20 fxFi20 fxFj20 fxFn21 fxFm21 fxFb21 fxFi21 fxFj21 fxFn22 fxFm22 fxFb22 fxFi22 fxFj22 fxFn23 fxFm23 fxFb23 fxFi23 fxFj23 fxFn24 fxFm24 fxFb24 fxFi24 fxFj24 fxFn25 fxFm25 fxFb25 fxFi25 fxFj25 fxFn26 fxFm26 fxFb26 fxFi26 fxFj26 fxFn27 fxFm27 fxFb27 fxFi27 fxFj27 fxFn28 fxFm28 fxFb28 fxFi28 fxFj28 fxFn29 fxFm29 fxFb29 fxFi29 fxFj29 fxFn30 fxFm30 fxFb30 fxFi30 fxFj30 fxFn31 fxFm31 fxFb31 fxFi31 fxFj31 fxFn32 fxFm32 fxFb32 fxFi32 fxFj32 fxFn33 fxFm33 fxFb33 fxFi33 fxFj33 fxFn34 fxFm34 fxFb34 fxFi34 fxFj34 fxFn35 fxFm35 fxFb35 fxFi35 fxFj35 fxFn36 fxFm36 fxFb36 fxFi36 fxFj36 fxFn37 fxFm37 fxFb37 fxFi37 fxFj37 fxFn38 fxFm38 fxFb38 fxFi38 fxFj38 fxFn39 fxFm39 fxFb39 fxFi39 fxFj39 fxFn40 fxFm40 fxFb40 fxFi40 fxFj40 fxFn41 fxFm41 fxFb41 fxFi41 fxFj41 fxFn42 fxFm42 fxFb42 fxFi42 fxFj42 fxFn43 fxFm43 fxFb43 fxFi43 fxFj43 fxFn44 fxFm44 fxFb44 fxFi44 fxFj44 fxFn45 fxFm45 fxFb45 fxFi45 fxFj45 fxFn46 fxFm46 fxFb46 fxFi46 fxFj46 fxFn47 fxFm47 fxFb47 fxFi47 fxFj47 fxFn48 fxFm48 fxFb48 fxFi48 fxFj48 fxFn49 fxFm49 fxFb49 fxFi49 fxFj49 fxFn50 fxFm50 fxFb50 fxFi50 fxFj50 fxFn51 fxFm51 fxFb51 fxFi51 fxFj51 fxFn52 fxFm52 fxFb52 fxFi52 fxFj52 fxFn53 fxFm53 fxFb53 fxFi53 fxFj53 fxFn54 fxFm54 fxFb54 fxFi54 fxFj54 fxFn55 fxFm55 fxFb55 fxFi55 fxFj55 fxFn56 fxFm56 fxFb56 fxFi56 fxFj56 fxFn57 fxFm57 fxFb57 fxFi57 fxFj57 fxFn58 fxFm58 fxFb58 fxFi58 fxFj58 fxFn59 fxFm59 fxFb59 fxFi59 fxFj59 fxFn60 fxFm60 fxFb60 fxFi60 fxFj60 fxFn61 fxFm61 fxFb61 fxFi61 fxFj61 fxFn62 fxFm62 fxFb62 fxFi62 fxFj62 fxFn63 fxFm63 fxFb63 fxFi63 fxFj63 fxFn64 fxFm64 fxFb64 fxFi64 fxFj64 fxFn65 fxFm65 fxFb65 fxFi65 fxFj65 fxFn66 fxFm66 fxFb66 fxFi66 fxFj66 fxFn67 fxFm67 fxFb67 fxFi67 fxFj67 fxFn68 fxFm68 fxFb68 fxFi68 fxFj68 fxFn69 fxFm69 fxFb69 fxFi69 fxFj69 fxFn70 fxFm70 fxFb70 fxFi70 fxFj70 fxFn71 fxFm71 fxFb71 fxFi71 fxFj71 fxFn72 fxFm72 fxFb72 fxFi72 fxFj72 fxFn73 fxFm73 fxFb73 fxFi73 fxFj73 fxFn74 fxFm74 fxFb74 fxFi74 fxFj74 fxFn75 fxFm75 fxFb75 fxFi75 fxFj75 fxFn76 fxFm76 fxFb76 fxFi76 fxFj76 fxFn77 fxFm77 fxFb77 fxFi77 fxFj77 fxFn78 fxFm78 fxFb78 fxFi78 fxFj78 fxFn79 fxFm79 fxFb79 fxFi79 fxFj79 fxFn80 fxFm80 fxFb80 fxFi80 fxFj80 fxFn81 fxFm81 fxFb81 fxFi81 fxFj81 fxFn82 fxFm82 fxFb82 fxFi82 fxFj82 fxFn83 fxFm83 fxFb83 fxFi83 fxFj83 fxFn84 fxFm84 fxFb84 fxFi84 fxFj84 fxFn85 fxFm85 fxFb85 fxFi85 fxFj85 fxFn86 fxFm86 fxFb86 fxFi86 fxFj86 fxFn87 fxFm87 fxFb87 fxFi87 fxFj87 fxFn88 fxFm88 fxFb88 fxFi88 fxFj88 fxFn89 fxFm89 fxFb89 fxFi89 fxFj89 fxFn90 fxFm90 fxFb90 fxFi90 fxFj90 fxFn91 fxFm91 fxFb91 fxFi91 fxFj91 fxFn92 fxFm92 fxFb92 fxFi92 fxFj92 fxFn93 fxFm93 fxFb93 fxFi93 fxFj93 fxFn94 fxFm94 fxFb94 fxFi94 fxFj94 fxFn95 fxFm95 fxFb95 fxFi95 fxFj95 fxFn96 fxFm96 fxFb96 fxFi96 fxFj96 fxFn97 fxFm97 fxFb97 fxFi97 fxFj97 fxFn98 fxFm98 fxFb98 fxFi98 fxFj98 fxFn99 fxFm99 fxFb99 fxFi99 fxFj99 fxFn100 fxFm100 fxFb100 fxFi100 fxFj100 fxFn101 fxFm101 fxFb101 fxFi101 fxFj101 fxFn102 fxFm102 fxFb102 fxFi102 fxFj102 fxFn103 fxFm103 fxFb103 fxFi103 fxFj103 fxFn104 fxFm104 fxFb104 fxFi104 fxFj104 fxFn105 fxFm105 fxFb105 fxFi105 fxFj105 fxFn106 fxFm106 fxFb106 fxFi106 fxFj106 fxFn107 fxFm107 fxFb107 fxFi107 fxFj107 fxFn108 fxFm108 fxFb108 fxFi108 fxFj108 fxFn109 fxFm109 fxFb109 fxFi109 fxFj109 fxFn110 fxFm110 fxFb110 fxFi110 fxFj110 fxFn111 fxFm111 fxFb111 fxFi111 fxFj111 fxFn112 fxFm112 fxFb112 fxFi112 fxFj112 fxFn113 fxFm113 fxFb113 fxFi113 fxFj113 fxFn114 fxFm114 fxFb114 fxFi114 fxFj114 fxFn115 fxFm115 fxFb115 fxFi115 fxFj115 fxFn116 fxFm116 fxFb116 fxFi116 fxFj116 fxFn117 fxFm117 fxFb117 fxFi117 fxFj117 fxFn118 fxFm118 fxFb118 fxFi118 fxFj118 fxFn119 fxFm119 fxFb119 fxFi119 fxFj119 fxFn120 fxFm120 fxFb120 fxFi120 fxFj120 fxFn121 fxFm121 fxFb121 fxFi121 fxFj121 fxFn122 fxFm122 fxFb122 fxFi122 fxFj122 fxFn123 fxFm123 fxFb123 fxFi123 fxFj123 fxFn124 fxFm124 fxFb124 fxFi124 fxFj124 fxFn125 fxFm125 fxFb125 fxFi125 fxFj125 fxFn126 fxFm126 fxFb126 fxFi126 fxFj126 fxFn127 fxFm127 fxFb127 fxFi127 fxFj127 fxFn128 fxFm128 fxFb128 fxFi128 fxFj128 fxFn129 fxFm129 fxFb129 fxFi129 fxFj129 fxFn130 fxFm130 fxFb130 fxFi130 fxFj130 fxFn131 fxFm131 fxFb131 fxFi131 fxFj131 fxFn132 fxFm132 fxFb132 fxFi132 fxFj132 fxFn133 fxFm133 fxFb133 fxFi133 fxFj133 fxFn134 fxFm134 fxFb134 fxFi134 fxFj134 fxFn135 fxFm135 fxFb135 fxFi135 fxFj135 fxFn136 fxFm136 fxFb136 fxFi136 fxFj136 fxFn137 fxFm137 fxFb137 fxFi137 fxFj137 fxFn138 fxFm138 fxFb138 fxFi138 fxFj138 fxFn139 fxFm139 fxFb139 fxFi139 fxFj139 fxFn140 fxFm140 fxFb140 fxFi140 fxFj140 fxFn141 fxFm141 fxFb141 fxFi141 fxFj141 fxFn142 fxFm142 fxFb142 fxFi142 fxFj142 fxFn143 fxFm143 fxFb143 fxFi143 fxFj143 fxFn144 fxFm144 fxFb144 fxFi144 fxFj144 fxFn145 fxFm145 fxFb145 fxFi145 fxFj145 fxFn146 fxFm146 fxFb146 fxFi146 fxFj146 fxFn147 fxFm147 fxFb147 fxFi147 fxFj147 fxFn148 fxFm148 fxFb148 fxFi148 fxFj148 fxFn149 fxFm149 fxFb149 fxFi149 fxFj149 fxFn150 fxFm150 fxFb150 fxFi150 fxFj150 fxFn151 fxFm151 fxFb151 fxFi151 fxFj151 fxFn152 fxFm152 fxFb152 fxFi152 fxFj152 fxFn153 fxFm153 fxFb153 fxFi153 fxFj153 fxFn154 fxFm154 fxFb154 fxFi154 fxFj154 fxFn155 fxFm155 fxFb155 fxFi155 fxFj155 fxFn156 fxFm156 fxFn157 fxFm157 fxFb157 fxFi157 fxFj157 fxFn158 fxFm158 fxFb158 fxFi158 fxFj158 fxFn159 fxFm159 fxFb159 fxFi159 fxFj159 fxFn160 fxFm160 fxFb160 fxFi160 fxFj160 fxFn161 fxFm161 fxFn162 fxFm162 fxFb162 fxFi162 fxFj162 fxFn163 fxFm163 fxFb163 fxFi163 fxFj163 fxFn164 fxFm164 fxFb164 fxFi164 fxFj164 fxFn165 fxFm165 fxFb165 fxFi165 fxFj165 fxFn166 fxFm166 fxFb166 fxFi166 fxFj166 fxFn167 fxFm167 fxFb167 fxFi167 fxFj167 fxFn168 fxFm168 fxFb168 fxFi168 fxFj168 fxFn169 fxFm169 fxFb169 fxFi169 fxFj169 fxFn170 fxFm170 fxFb170 fxFi170 fxFj170 fxFn171 fxFm171 fxFb171 fxFi171 fxFj171 fxFn172 fxFm172 fxFb172 fxFi172 fxFj172 fxFn173 fxFm173 fxFn174 fxFm174 fxFb174 fxFi174 fxFj174 fxFn175 fxFm175 fxFb175 fxFi175 fxFj175 fxFn176 fxFm176 fxFb176 fxFi176 fxFj176 fxFn177 fxFm177 fxFb177 fxFi177 fxFj177 fxFn178 fxFm178 fxFb178 fxFi178 fxFj178 fxFn179 fxFm179 fxFb179 fxFi179 fxFj179 fxFn180 fxFm180 fxFn181 fxFm181 fxFb181 fxFi181 fxFj181 fxFn182 fxFm182 fxFb182 fxFi182 fxFj182 fxFn183 fxFm183 fxFn184 fxFm184 fxFb184 fxFi184 fxFj184 fxFn185 fxFm185 fxFb185 fxFi185 fxFj185 fxFn186 fxFm186 fxFb186 fxFi186 fxFj186 fxFn187 fxFm187 fxFb187 fxFi187 fxFj187 fxFn188 fxFm188 fxFb188 fxFi188 fxFj188 fxFn189 fxFm189 fxFb189 fxFi189 fxFj189 fxFn190 fxFm190 fxFb190 fxFi190 fxFj190 fxFn191 fxFm191 fxFn192 fxFm192 fxFb192 fxFi192 fxFj192 fxFn193 fxFm193 fxFb193 fxFi193 fxFj193 fxFn194 fxFm194 fxFb194 fxFi194 fxFj194 fxFn195 fxFm195 fxFb195 fxFi195 fxFj195 fxFn196 fxFm196 fxFb196 fxFi196 fxFj196 fxFn197 fxFm197 fxFb197 fxFi197 fxFj197 fxFn198 fxFm198 fxFb198 fxFi198 fxFj198 fxFn199 fxFm199 fxFb199 fxFi199 fxFj199 fxFn200 fxFm200 fxFb200 fxFi200 fxFj200 fxFn201 fxFm201 fxFn202 fxFm202 fxFb202 fxFi202 fxFj202 fxFn203 fxFm203 fxFb203 fxFi203 fxFj203 fxFn204 fxFm204 fxFb204 fxFi204 fxFj204 fxFn205 fxFm205 fxFb205 fxFi205 fxFj205 fxFn206 fxFm206 fxFb206 fxFi206 fxFj206 fxFn207 fxFm207 fxFb207 fxFi207 fxFj207 fxFn208 fxFm208 fxFb208 fxFi208 fxFj208 fxFn209 fxFm209 fxFb209 fxFi209 fxFj209 fxFn210 fxFm210 fxFb210 fxFi210 fxFj210 fxFn211 fxFm211 fxFb211 fxFi211 fxFj211 fxFn212 fxFm212 fxFb212 fxFi212 fxFj212 fxFn213 fxFm213 fxFb213 fxFi213 fxFj213 fxFn214 fxFm214 fxFb214 fxFi214 fxFj214 fxFn215 fxFm215 fxFb215 fxFi215 fxFj215 fxFn216 fxFm216 fxFb216 fxFi216 fxFj216 fxFn217 fxFm217 fxFb217 fxFi217 fxFj217 fxFn218 fxFm218 fxFb218 fxFi218 fxFj218 fxFn219 fxFm219 fxFb219 fxFi219 fxFj219 fxFn220 fxFm220 fxFb220 fxFi220 fxFj220 fxFn221 fxFm221 fxFb221 fxFi221 fxFj221 fxFn222 fxFm222 fxFb222 fxFi222 fxFj222 fxFn223 fxFm223 fxFb223 fxFi223 fxFj223 fxFn224 fxFm224 fxFb224 fxFi224 fxFj224 fxFn225 fxFm225 fxFb225 fxFi225 fxFj225 fxFn226 fxFm226 fxFb226 fxFi226 fxFj226 fxFn227 fxFm227 fxFb227 fxFi227 fxFj227 fxFn228 fxFm228 fxFb228 fxFi228 fxFj228 fxFn229 fxFm229 fxFb229 fxFi229 fxFj229 fxFn230 fxFm230 fxFb230 fxFi230 fxFj230 fxFn231 fxFm231 fxFb231 fxFi231 fxFj231 fxFn232 fxFm232 fxFb232 fxFi232 fxFj232 fxFn233 fxFm233 fxFb233 fxFi233 fxFj233 fxFn234 fxFm234 fxFb234 fxFi234 fxFj234
section
attribute [local simp] Pg.eta Pg.cold Pg.mapM Pg.mapMc Pg.view Pg.viewc Pg.hotR Pg.ren Pg.renc Pg.low Pg.tau Pg.tauc Pg.bare Pg.flat Pg.flat1 Pg.mapMt Pg.mapMd Pg.coldt Pg.coldd Pg.hotRt Pg.hotRd
attribute [local simp] Pp.eta Pp.cold Pp.mapM Pp.mapMc Pp.view Pp.viewc Pp.hotR Pp.ren Pp.renc Pp.low Pp.tau Pp.tauc Pp.bare Pp.flat Pp.flat1 Pp.mapMt Pp.mapMd Pp.coldt Pp.coldd Pp.hotRt Pp.hotRd
attribute [local simp] Ca.eta Ca.dec_row Ca.dec_hrow Ca.cold Ca.hcold Ca.mapM Ca.mapMc Ca.hmapM Ca.hmapMc Ca.view Ca.viewc Ca.hview Ca.hviewc Ca.hotR Ca.ren Ca.renc Ca.low Ca.hlow
attribute [local simp] Item.eta Item.cold Item.mapM Item.mapMc Item.view Item.viewc Item.hotR Item.ren Item.renc Item.low Item.tau Item.tauc Item.bare Item.flat Item.flat1 Item.mapMt Item.mapMd Item.coldt Item.coldd Item.hotRt Item.hotRd
attribute [local simp] Clk.eta Clk.dec_row Clk.dec_hrow Clk.cold Clk.hcold Clk.mapM Clk.mapMc Clk.hmapM Clk.hmapMc Clk.view Clk.viewc Clk.hview Clk.hviewc Clk.hotR Clk.ren Clk.renc Clk.low Clk.hlow
attribute [local simp] okL_tau okL_bare okL_allV okL_one okL_res
theorem itCU : InlOk Try.prog 10 (cloneU 3) := cloneU_ok itClone
theorem ppCU : InlOk Try.prog 11 (cloneU 20) := cloneU_ok clPp
theorem it_bareU {ok : Bool} {l : List Item} {r : Heap} : bareH (okO ok 3 (l.map Item.row) :: r) = bareH r := okO_bare (g := Item.row) (fun e => by simp [Item.row, bareA])
theorem pp_bareU {ok : Bool} {l : List Pp} {r : Heap} : bareH (okO ok 20 (l.map Pp.row) :: r) = bareH r := okO_bare (g := Pp.row) (fun e => by simp [Pp.row, bareA])
theorem it_tauU {ok : Bool} {m : Nat} {l : List Item} : tauO [] m (okO ok 3 (l.map Item.row)) = okO ok 3 (l.map Item.row) := okO_tau (g := Item.row) (fun e => by simp [Item.row, tau])
theorem pp_tauU {ok : Bool} {m : Nat} {l : List Pp} : tauO [] m (okO ok 20 (l.map Pp.row)) = okO ok 20 (l.map Pp.row) := okO_tau (g := Pp.row) (fun e => by simp [Pp.row, tau])
theorem oA_cells {id sz n : Nat} : cellsOf (oA id sz n) = some [oA id sz n] := by unfold oA; split <;> rfl
theorem okL_cells {ok : Bool} {id sz n : Nat} : cellsOf (okL ok id sz n) = some [okL ok id sz n] := by unfold okL; split <;> rfl
theorem cells_agg {cs : Row} : cellsOf (.agg cs) = if allOneA cs = true then some cs else none := rfl
theorem cells_vagg {cs : Array Value} : cellsOf (.v (.agg cs)) = if allOne cs.toList = true then some (cs.toList.map .v) else none := rfl
theorem cells_int {k : IntKind} {x : Int} : cellsOf (.v (.int k x)) = some [.v (.int k x)] := rfl
theorem cells_bool {b : Bool} : cellsOf (.v (.bool b)) = some [.v (.bool b)] := rfl
theorem cells_slice {a : Option Addr} {n k : Nat} : cellsOf (.v (.slice a n k)) = some [.v (.slice a n k)] := rfl
theorem cells_osl {a b c d e : Nat} : cellsOf (.osl a b c d e) = some [.osl a b c d e] := rfl
theorem cells_esl : cellsOf .esl = some [.esl] := rfl
theorem cells_fsl {o : Bool} {sz : Nat} {rows : List Row} : cellsOf (.fsl o sz rows) = some [.fsl o sz rows] := rfl
theorem cells_okc {ok : Bool} {id sz n : Nat} {k : IntKind} {x : Int} : cellsOf (.agg [okL ok id sz n, .v (.int k x)]) = some [okL ok id sz n, .v (.int k x)] := by unfold okL; split <;> rfl
attribute [local simp high] cells_okc
attribute [local simp] cells_agg cells_vagg cells_int cells_bool cells_slice cells_osl cells_esl cells_fsl oA_cells okL_cells
attribute [local simp] it_bareU pp_bareU it_tauU pp_tauU allV_oA oneA_oA res_oA
theorem coldR_it {l : List Item} : coldR (l.map Item.row) = l.map Item.row := by
  induction l with
  | nil => rfl
  | cons a l ih => simp only [List.map_cons, coldR, ih, Item.row, coldC, cold]
theorem coldR_pp {l : List Pp} : coldR (l.map Pp.row) = l.map Pp.row := by
  induction l with
  | nil => rfl
  | cons a l ih => simp only [List.map_cons, coldR, ih, Pp.row, Pg.row, coldC, cold]
theorem vwC {H : Heap} {l : List Item} {h : Int} : cold (view H 4 (.agg [.fsl false 3 (l.map Item.row), .v (.int .i64 h)])) = .agg [.fsl false 3 (l.map Item.row), .v (.int .i64 h)] := by
  simp [view, cold, coldC, coldR_it]
theorem vwP {H : Heap} {l : List Pp} {h : Int} : cold (view H 4 (.agg [.fsl false 20 (l.map Pp.row), .v (.int .i64 h)])) = .agg [.fsl false 20 (l.map Pp.row), .v (.int .i64 h)] := by
  simp [view, cold, coldC, coldR_pp]
theorem vwV {H : Heap} {v : Value} : cold (view H 4 (.v v)) = .v v := by simp [view, cold]
theorem vwI {H : Heap} {a b c : Value} : cold (view H 4 (.agg [.v a, .v b, .v c])) = .agg [.v a, .v b, .v c] := by simp [view, cold, coldC]
theorem obj_lt {H : Heap} {id : Nat} {o : Nat × List Row} (h : obj H id = some o) : id < H.length := (List.getElem?_eq_some_iff.1 (obj_get h)).1
theorem obj_set_ne {H : Heap} {i j : Nat} {x : Option (Nat × List Row)} (h : i ≠ j) : obj (H.set i x) j = obj H j := by
  unfold obj; rw [List.getElem?_set_ne h]
theorem obj_set_self {H : Heap} {i : Nat} {o : Nat × List Row} (h : i < H.length) (h0 : o.1 ≠ 0) : obj (H.set i (some o)) i = some o := by
  unfold obj; rw [List.getElem?_set_self h]; simp [h0]
theorem dIt {l : List Item} : List.mapM itemDec (l.map Item.row) = some l := mapM_dec rItem l
theorem dPp {l : List Pp} : List.mapM ppDec (l.map Pp.row) = some l := mapM_dec rPp l
structure PB (l : List Item) (h : Int) (m : List Pp) (T : Int) (G : Heap) : Prop where
  o0 : obj G 0 = some (2, [[.fsl false 3 (l.map Item.row), .v (.int .i64 h)]])
  o2 : obj G 2 = some (2, [[.fsl false 20 (m.map Pp.row), .v (.int .i64 T)]])
  o5 : obj G 5 = some (1, [[oA 3 3 l.length]])
  o6 : obj G 6 = some (1, [[oA 4 20 m.length]])
  o3 : l ≠ [] → obj G 3 = some (3, l.map Item.row)
  o4 : m ≠ [] → obj G 4 = some (20, m.map Pp.row)
namespace PB
variable {l : List Item} {h : Int} {m : List Pp} {T : Int} {G : Heap}
theorem vIt {d : Nat} : List.map (fun r => List.map (view G d) r) (l.map Item.row) = l.map Item.row := by
  simp [Item.row, view]
theorem vPp {d : Nat} : List.map (fun r => List.map (view G d) r) (m.map Pp.row) = m.map Pp.row := by
  simp [Pp.row, Pg.row, view]
theorem d0 (hb : PB l h m T G) : (cFp rClk).dec (cold (view G 4 (.ptr 0 2 0 0))) = some ⟨l, h⟩ := by
  have := hb.o0
  simp [-obj, view, this, cold, coldC, coldR_it, cFp, rClk, clkDec, rItem, -List.mapM_map, dIt]
theorem d2 (hb : PB l h m T G) : (cFp rCa).dec (cold (view G 4 (.ptr 2 2 0 0))) = some ⟨m, T⟩ := by
  have := hb.o2
  simp [-obj, view, this, cold, coldC, coldR_pp, cFp, rCa, caDec, rPp, -List.mapM_map, dPp]
theorem d5 (hb : PB l h m T G) : (cFp (rS rItem)).dec (cold (view G 4 (.ptr 5 1 0 0))) = some l := by
  have h5 := hb.o5
  by_cases e : l = []
  · subst e
    simp [-obj, view, h5, cold, coldC, cFp, rS, cSl, slDec, oA]
  · have h3 := hb.o3 e
    have hn : ¬ l.length = 0 := fun q => e (List.length_eq_zero_iff.1 q)
    have ht : List.take l.length (l.map Item.row) = l.map Item.row := List.take_of_length_le (by simp)
    simp [-obj, view, h5, h3, hn, ht, -List.map_map, vIt, cold, coldC, coldR_it, cFp, rS, cSl, slDec, rItem, oA, e, -List.mapM_map, dIt]
theorem d6 (hb : PB l h m T G) : (cFp (rS rPp)).dec (cold (view G 4 (.ptr 6 1 0 0))) = some m := by
  have h5 := hb.o6
  by_cases e : m = []
  · subst e
    simp [-obj, view, h5, cold, coldC, cFp, rS, cSl, slDec, oA]
  · have h3 := hb.o4 e
    have hn : ¬ m.length = 0 := fun q => e (List.length_eq_zero_iff.1 q)
    have ht : List.take m.length (m.map Pp.row) = m.map Pp.row := List.take_of_length_le (by simp)
    simp [-obj, view, h5, h3, hn, ht, -List.map_map, vPp, cold, coldC, coldR_pp, cFp, rS, cSl, slDec, rPp, oA, e, -List.mapM_map, dPp]
theorem ofCons {x : Option (Nat × List Row)} {K : Heap} : PB l h m T (some (2, [[.fsl false 3 (l.map Item.row), .v (.int .i64 h)]]) :: x :: some (2, [[.fsl false 20 (m.map Pp.row), .v (.int .i64 T)]]) :: oT 3 (l.map Item.row) :: oT 20 (m.map Pp.row) :: some (1, [[oA 3 3 l.length]]) :: some (1, [[oA 4 20 m.length]]) :: K) :=
  ⟨rfl, rfl, rfl, rfl, fun e => by simp [obj, oT, e], fun e => by simp [obj, oT, e]⟩
theorem app (hb : PB l h m T G) (K : Heap) : PB l h m T (G ++ K) :=
  ⟨by rw [obj_app (obj_lt hb.o0)]; exact hb.o0, by rw [obj_app (obj_lt hb.o2)]; exact hb.o2, by rw [obj_app (obj_lt hb.o5)]; exact hb.o5, by rw [obj_app (obj_lt hb.o6)]; exact hb.o6, fun e => by rw [obj_app (obj_lt (hb.o3 e))]; exact hb.o3 e, fun e => by rw [obj_app (obj_lt (hb.o4 e))]; exact hb.o4 e⟩
theorem set (hb : PB l h m T G) {i : Nat} (hi : 7 ≤ i) (o : Option (Nat × List Row)) : PB l h m T (G.set i o) :=
  ⟨by rw [obj_set_ne (by omega)]; exact hb.o0, by rw [obj_set_ne (by omega)]; exact hb.o2, by rw [obj_set_ne (by omega)]; exact hb.o5, by rw [obj_set_ne (by omega)]; exact hb.o6, fun e => by rw [obj_set_ne (by omega)]; exact hb.o3 e, fun e => by rw [obj_set_ne (by omega)]; exact hb.o4 e⟩
end PB
def HI (G : Heap) (o : Bool) (i n : Nat) : Prop := o = true → ∃ L : List Item, L.length = n ∧ obj G i = some (3, L.map Item.row)
def HP (G : Heap) (o : Bool) (i n : Nat) : Prop := o = true → ∃ L : List Pp, L.length = n ∧ obj G i = some (20, L.map Pp.row)
theorem obj_app' {H K : Heap} {i : Nat} {o : Nat × List Row} (h : obj H i = some o) : obj (H ++ K) i = some o := by rw [obj_app (obj_lt h)]; exact h
theorem obj_set' {H : Heap} {i j : Nat} {x : Option (Nat × List Row)} {o : Nat × List Row} (h : obj H i = some o) (e : j ≠ i) : obj (H.set j x) i = some o := by rw [obj_set_ne e]; exact h
theorem HI.app {G K : Heap} {o : Bool} {i n : Nat} (h : HI G o i n) : HI (G ++ K) o i n := fun e => let ⟨L, h1, h2⟩ := h e; ⟨L, h1, obj_app' h2⟩
theorem HP.app {G K : Heap} {o : Bool} {i n : Nat} (h : HP G o i n) : HP (G ++ K) o i n := fun e => let ⟨L, h1, h2⟩ := h e; ⟨L, h1, obj_app' h2⟩
theorem HI.set {G : Heap} {o : Bool} {i n j : Nat} {x : Option (Nat × List Row)} (h : HI G o i n) (e : j ≠ i) : HI (G.set j x) o i n := fun q => let ⟨L, h1, h2⟩ := h q; ⟨L, h1, obj_set' h2 e⟩
theorem HP.set {G : Heap} {o : Bool} {i n j : Nat} {x : Option (Nat × List Row)} (h : HP G o i n) (e : j ≠ i) : HP (G.set j x) o i n := fun q => let ⟨L, h1, h2⟩ := h q; ⟨L, h1, obj_set' h2 e⟩
theorem HI.upd {G : Heap} {o : Bool} {i n : Nat} {L : List Item} (hi : i < G.length) (hl : L.length = n) : HI (G.set i (some (3, L.map Item.row))) o i n := fun _ => ⟨L, hl, obj_set_self hi (Nat.succ_ne_zero 2)⟩
theorem HP.upd {G : Heap} {o : Bool} {i n : Nat} {L : List Pp} (hi : i < G.length) (hl : L.length = n) : HP (G.set i (some (20, L.map Pp.row))) o i n := fun _ => ⟨L, hl, obj_set_self hi (Nat.succ_ne_zero 19)⟩
structure PI (l : List Item) (h : Int) (m : List Pp) (T : Int) (o1 o2 o3 o4 o5 o6 o7 : Bool) (n1 n2 n3 n4 n5 n6 n7 : Nat) (h4 h5 h6 h7 : Int) (G : Heap) : Prop where
  b : PB l h m T G
  l1 : HI G o1 7 n1
  l2 : HI G o2 9 n2
  l3 : HI G o3 11 n3
  l4 : HP G o4 13 n4
  l5 : HP G o5 15 n5
  l6 : HP G o6 17 n6
  l7 : HP G o7 20 n7
  b4 : obj G 14 = some (2, [[okL o4 13 20 n4, .v (.int .i64 h4)]])
  b5 : obj G 16 = some (2, [[okL o5 15 20 n5, .v (.int .i64 h5)]])
  b6 : obj G 18 = some (2, [[okL o6 17 20 n6, .v (.int .i64 h6)]])
  b7 : obj G 21 = some (2, [[okL o7 20 20 n7, .v (.int .i64 h7)]])
namespace PI
variable {l : List Item} {h : Int} {m : List Pp} {T : Int} {o1 o2 o3 o4 o5 o6 o7 : Bool} {n1 n2 n3 n4 n5 n6 n7 : Nat} {h4 h5 h6 h7 : Int} {G : Heap}
theorem app (q : PI l h m T o1 o2 o3 o4 o5 o6 o7 n1 n2 n3 n4 n5 n6 n7 h4 h5 h6 h7 G) (K : Heap) : PI l h m T o1 o2 o3 o4 o5 o6 o7 n1 n2 n3 n4 n5 n6 n7 h4 h5 h6 h7 (G ++ K) :=
  ⟨q.b.app K, q.l1.app, q.l2.app, q.l3.app, q.l4.app, q.l5.app, q.l6.app, q.l7.app, obj_app' q.b4, obj_app' q.b5, obj_app' q.b6, obj_app' q.b7⟩
theorem len (q : PI l h m T o1 o2 o3 o4 o5 o6 o7 n1 n2 n3 n4 n5 n6 n7 h4 h5 h6 h7 G) : 21 < G.length := obj_lt q.b7
theorem s1 (q : PI l h m T o1 o2 o3 o4 o5 o6 o7 n1 n2 n3 n4 n5 n6 n7 h4 h5 h6 h7 G) {L : List Item} (hl : L.length = n1) : PI l h m T o1 o2 o3 o4 o5 o6 o7 n1 n2 n3 n4 n5 n6 n7 h4 h5 h6 h7 (G.set 7 (some (3, L.map Item.row))) :=
  ⟨q.b.set (by decide) _, HI.upd (by have := q.len; omega) hl, q.l2.set (by decide), q.l3.set (by decide), q.l4.set (by decide), q.l5.set (by decide), q.l6.set (by decide), q.l7.set (by decide), obj_set' q.b4 (by decide), obj_set' q.b5 (by decide), obj_set' q.b6 (by decide), obj_set' q.b7 (by decide)⟩
theorem s2 (q : PI l h m T o1 o2 o3 o4 o5 o6 o7 n1 n2 n3 n4 n5 n6 n7 h4 h5 h6 h7 G) {L : List Item} (hl : L.length = n2) : PI l h m T o1 o2 o3 o4 o5 o6 o7 n1 n2 n3 n4 n5 n6 n7 h4 h5 h6 h7 (G.set 9 (some (3, L.map Item.row))) :=
  ⟨q.b.set (by decide) _, q.l1.set (by decide), HI.upd (by have := q.len; omega) hl, q.l3.set (by decide), q.l4.set (by decide), q.l5.set (by decide), q.l6.set (by decide), q.l7.set (by decide), obj_set' q.b4 (by decide), obj_set' q.b5 (by decide), obj_set' q.b6 (by decide), obj_set' q.b7 (by decide)⟩
theorem s3 (q : PI l h m T o1 o2 o3 o4 o5 o6 o7 n1 n2 n3 n4 n5 n6 n7 h4 h5 h6 h7 G) {L : List Item} (hl : L.length = n3) : PI l h m T o1 o2 o3 o4 o5 o6 o7 n1 n2 n3 n4 n5 n6 n7 h4 h5 h6 h7 (G.set 11 (some (3, L.map Item.row))) :=
  ⟨q.b.set (by decide) _, q.l1.set (by decide), q.l2.set (by decide), HI.upd (by have := q.len; omega) hl, q.l4.set (by decide), q.l5.set (by decide), q.l6.set (by decide), q.l7.set (by decide), obj_set' q.b4 (by decide), obj_set' q.b5 (by decide), obj_set' q.b6 (by decide), obj_set' q.b7 (by decide)⟩
theorem s4 (q : PI l h m T o1 o2 o3 o4 o5 o6 o7 n1 n2 n3 n4 n5 n6 n7 h4 h5 h6 h7 G) {L : List Pp} (hl : L.length = n4) : PI l h m T o1 o2 o3 o4 o5 o6 o7 n1 n2 n3 n4 n5 n6 n7 h4 h5 h6 h7 (G.set 13 (some (20, L.map Pp.row))) :=
  ⟨q.b.set (by decide) _, q.l1.set (by decide), q.l2.set (by decide), q.l3.set (by decide), HP.upd (by have := q.len; omega) hl, q.l5.set (by decide), q.l6.set (by decide), q.l7.set (by decide), obj_set' q.b4 (by decide), obj_set' q.b5 (by decide), obj_set' q.b6 (by decide), obj_set' q.b7 (by decide)⟩
theorem s5 (q : PI l h m T o1 o2 o3 o4 o5 o6 o7 n1 n2 n3 n4 n5 n6 n7 h4 h5 h6 h7 G) {L : List Pp} (hl : L.length = n5) : PI l h m T o1 o2 o3 o4 o5 o6 o7 n1 n2 n3 n4 n5 n6 n7 h4 h5 h6 h7 (G.set 15 (some (20, L.map Pp.row))) :=
  ⟨q.b.set (by decide) _, q.l1.set (by decide), q.l2.set (by decide), q.l3.set (by decide), q.l4.set (by decide), HP.upd (by have := q.len; omega) hl, q.l6.set (by decide), q.l7.set (by decide), obj_set' q.b4 (by decide), obj_set' q.b5 (by decide), obj_set' q.b6 (by decide), obj_set' q.b7 (by decide)⟩
theorem s6 (q : PI l h m T o1 o2 o3 o4 o5 o6 o7 n1 n2 n3 n4 n5 n6 n7 h4 h5 h6 h7 G) {L : List Pp} (hl : L.length = n6) : PI l h m T o1 o2 o3 o4 o5 o6 o7 n1 n2 n3 n4 n5 n6 n7 h4 h5 h6 h7 (G.set 17 (some (20, L.map Pp.row))) :=
  ⟨q.b.set (by decide) _, q.l1.set (by decide), q.l2.set (by decide), q.l3.set (by decide), q.l4.set (by decide), q.l5.set (by decide), HP.upd (by have := q.len; omega) hl, q.l7.set (by decide), obj_set' q.b4 (by decide), obj_set' q.b5 (by decide), obj_set' q.b6 (by decide), obj_set' q.b7 (by decide)⟩
theorem s7 (q : PI l h m T o1 o2 o3 o4 o5 o6 o7 n1 n2 n3 n4 n5 n6 n7 h4 h5 h6 h7 G) {L : List Pp} (hl : L.length = n7) : PI l h m T o1 o2 o3 o4 o5 o6 o7 n1 n2 n3 n4 n5 n6 n7 h4 h5 h6 h7 (G.set 20 (some (20, L.map Pp.row))) :=
  ⟨q.b.set (by decide) _, q.l1.set (by decide), q.l2.set (by decide), q.l3.set (by decide), q.l4.set (by decide), q.l5.set (by decide), q.l6.set (by decide), HP.upd (by have := q.len; omega) hl, obj_set' q.b4 (by decide), obj_set' q.b5 (by decide), obj_set' q.b6 (by decide), obj_set' q.b7 (by decide)⟩
end PI
theorem nextF_len : ∀ (f : Nat) (l : List Item) (k n : Nat) {l' : List Item} {k' : Nat} {i : Int} {n' : Nat}, nextF f l k n = some (l', k', i, n') → l'.length ≤ l.length
  | 0, _, _, _, _, _, _, _, h => by simp [nextF] at h
  | f + 1, l, k, n, l', k', i, n', h => by
    simp only [nextF] at h
    split at h
    · split at h
      · simp at h
        obtain ⟨rfl, _⟩ := h
        exact List.length_eraseIdx_le ..
      · have := nextF_len f _ _ _ h
        simpa using this
    · simp at h
theorem clkPut_len {c : Clk} {id : Int} : (clkX (clkPut c id)).2.1.length ≤ c.items.length + 1 := by
  unfold clkPut
  split
  · split
    · simp [clkX]
    · split
      · simp [clkX]
      · simp [clkX]; omega
  · simp [clkX]
theorem clkMark_len {c : Clk} {x : Item} : (clkX (clkMark c x)).2.1.length ≤ c.items.length + 1 := by
  unfold clkMark
  split
  · split
    · simp [clkX]
    · simp [clkX]
  · simp [clkX]
theorem clkNext_len {c : Clk} : (nextX (clkNext c)).2.1.length ≤ c.items.length + 1 := by
  unfold clkNext
  split
  · split
    · split
      · rename_i h
        have := nextF_len _ _ _ _ h
        simp only [nextX]; omega
      · simp [nextX]
    · simp [nextX]
  · simp [nextX]
theorem caSet_len {c : Ca} {f n k b : Int} : (caX (caSet c f n k b)).2.1.length ≤ c.pages.length + 1 := by
  unfold caSet
  split
  · split
    · simp [caX]
    · split
      · simp [caX]
      · simp [caX]
  · simp [caX]
theorem caBring_len {c : Ca} {f n : Int} {d : Pg} : (caX (caBring c f n d)).2.1.length ≤ c.pages.length + 1 := by
  unfold caBring
  split
  · split
    · simp [caX]
    · split
      · simp [caX]
      · simp [caX, insG]; omega
  · simp [caX]
theorem caOut_len {c : Ca} {f n : Int} : (caX (caOut c f n)).2.1.length ≤ c.pages.length + 1 := by
  unfold caOut
  split
  · split
    · simp [caX]
    · simp only [caX]
      have := List.length_eraseIdx_le c.pages (lowG c.pages f n)
      omega
  · simp [caX]
theorem backX_len {c : Ca} : (backX c).2.1.length ≤ c.pages.length + 1 := by
  unfold backX
  split
  · split <;> simp
  · simp
end
section
attribute [local simp] Pg.eta Pg.cold Pg.mapM Pg.mapMc Pg.view Pg.viewc Pg.hotR Pg.ren Pg.renc Pg.low Pg.tau Pg.tauc Pg.bare Pg.flat Pg.flat1 Pg.mapMt Pg.mapMd Pg.coldt Pg.coldd Pg.hotRt Pg.hotRd
attribute [local simp] Pp.eta Pp.cold Pp.mapM Pp.mapMc Pp.view Pp.viewc Pp.hotR Pp.ren Pp.renc Pp.low Pp.tau Pp.tauc Pp.bare Pp.flat Pp.flat1 Pp.mapMt Pp.mapMd Pp.coldt Pp.coldd Pp.hotRt Pp.hotRd
attribute [local simp] Ca.eta Ca.dec_row Ca.dec_hrow Ca.cold Ca.hcold Ca.mapM Ca.mapMc Ca.hmapM Ca.hmapMc Ca.view Ca.viewc Ca.hview Ca.hviewc Ca.hotR Ca.ren Ca.renc Ca.low Ca.hlow
attribute [local simp] Item.eta Item.cold Item.mapM Item.mapMc Item.view Item.viewc Item.hotR Item.ren Item.renc Item.low Item.tau Item.tauc Item.bare Item.flat Item.flat1 Item.mapMt Item.mapMd Item.coldt Item.coldd Item.hotRt Item.hotRd
attribute [local simp] Clk.eta Clk.dec_row Clk.dec_hrow Clk.cold Clk.hcold Clk.mapM Clk.mapMc Clk.hmapM Clk.hmapMc Clk.view Clk.viewc Clk.hview Clk.hviewc Clk.hotR Clk.ren Clk.renc Clk.low Clk.hlow
attribute [local simp] okL_tau okL_bare okL_allV okL_one okL_res
attribute [local simp high] cells_okc
attribute [local simp] cells_agg cells_vagg cells_int cells_bool cells_slice cells_osl cells_esl cells_fsl oA_cells okL_cells
attribute [local simp] it_bareU pp_bareU it_tauU pp_tauU allV_oA oneA_oA res_oA
theorem okLf {id sz n : Nat} : okL false id sz n = .esl := rfl
theorem okLt {id sz n : Nat} : okL true id sz n = .osl id sz 0 n n := rfl
theorem one_esl : oneA .esl = true := rfl
theorem one_osl {a b c d e : Nat} : oneA (.osl a b c d e) = true := rfl
theorem one_int {k : IntKind} {x : Int} : oneA (.v (.int k x)) = true := rfl
theorem allOne_nil : allOneA [] = true := rfl
theorem allOne_cons {a : AVal} {r : Row} : allOneA (a :: r) = (oneA a && allOneA r) := rfl
theorem pagesOwn_pure : PureOk Try.prog 3 (argM (cAgg rClk) fun c => argM (cAgg rItem) fun x => argM (cAgg rCa) fun p => argM (cInt .i64) fun f => argM (cInt .i64) fun n => finM (if (c.items.length ≤ 1048576 ∧ p.pages.length ≤ 1048576) then some (.v (.bool true)) else none)) := by
  refine pure5 Try.func3 rfl ?_
  rintro c x p f n r hr
  by_cases hc : (c.items.length ≤ 1048576 ∧ p.pages.length ≤ 1048576)
  case neg => rw [if_neg hc] at hr; cases hr
  rw [if_pos hc] at hr
  simp only [Option.some.injEq] at hr
  subst hr
  refine body_gen ((((((((((((((noOrc_ok.withP clocks_pure).withP caches_pure).withP same1_pure).withI clkPut_inl).withI clkMark_inl).withI clkNext_inl).withI set_inl).withI bring_inl).withI back_inl).withI out_inl).withIF itCU cloneU_loc).withIF ppCU cloneU_loc).withD (fun i => if i = 3 then [(1000001,228),(2,4),(1,6),(4,6),(1,7),(4,7)] else [])).withA (fun i => if i = 3 then [0,1,2,3,4,5,6,7,8,9,0,1,2,3,4,5,7,6,8,9,0,1,2,3,4,6,5,7,8,9,0,1,2,3,4,6,7,5,8,9,0,1,2,3,4,7,5,6,8,9,0,1,2,3,4,7,6,5,8,9,0,1,3,4,6,2,5,7,8,9,0,1,3,4,6,2,7,5,8,9,0,1,3,4,6,7,2,5,8,9,0,1,3,4,7,2,5,6,8,9,0,1,3,4,7,2,6,5,8,9,0,1,3,4,7,6,2,5,8,9] else [])) fxMix (by kernel_rfl) (by simp [Try.ntmps3]) ?_
  intro C cP cI cN cD cF cA cR cL
  have cp0 := orcP clocks_pure (C := C) (by rw [cP]; rfl)
  have cp1 := orcP caches_pure (C := C) (by rw [cP]; rfl)
  have ch0 := orcP same1_pure (C := C) (by rw [cP]; rfl)
  have cn0 := orcI clkPut_inl (C := C) (by rw [cN]; rfl)
  have cn1 := orcI clkMark_inl (C := C) (by rw [cN]; rfl)
  have cn2 := orcI clkNext_inl (C := C) (by rw [cN]; rfl)
  have cn3 := orcI set_inl (C := C) (by rw [cN]; rfl)
  have cn4 := orcI bring_inl (C := C) (by rw [cN]; rfl)
  have cn5 := orcI back_inl (C := C) (by rw [cN]; rfl)
  have cn6 := orcI out_inl (C := C) (by rw [cN]; rfl)
  have cn7 := orcI itCU (C := C) (by rw [cN]; rfl)
  have cn8 := orcI ppCU (C := C) (by rw [cN]; rfl)
  replace cI := fun g => congrFun cI g
  simp only [Orc.withP, Orc.withI, Orc.withF, Orc.withD, Orc.withA, Orc.withR, Orc.withC, noOrc] at cI
  replace cR : C.rd = fun _ => none := cR
  replace cD : C.dyn = fun i => if i = 3 then [(1000001,228),(2,4),(1,6),(4,6),(1,7),(4,7)] else [] := cD
  replace cF := fun g => congrFun cF g
  simp only [Orc.withP, Orc.withI, Orc.withF, Orc.withD, Orc.withA, Orc.withR, Orc.withC, noOrc] at cF
  replace cA : C.alt = fun i => if i = 3 then [0,1,2,3,4,5,6,7,8,9,0,1,2,3,4,5,7,6,8,9,0,1,2,3,4,6,5,7,8,9,0,1,2,3,4,6,7,5,8,9,0,1,2,3,4,7,5,6,8,9,0,1,2,3,4,7,6,5,8,9,0,1,3,4,6,2,5,7,8,9,0,1,3,4,6,2,7,5,8,9,0,1,3,4,6,7,2,5,8,9,0,1,3,4,7,2,5,6,8,9,0,1,3,4,7,2,6,5,8,9,0,1,3,4,7,6,2,5,8,9] else [] := cA
  clear cP cN
  obtain ⟨l, h⟩ := c
  obtain ⟨m, T⟩ := p
  obtain ⟨hl, hm⟩ := hc
  simp only at hl hm
  have hl2 : (l.map Item.row).length ≤ 4294967296 := by simp; omega
  have hm2 : (m.map Pp.row).length ≤ 4294967296 := by simp; omega
  have u1 : ∀ (o : Bool) (H : Heap), cloneU 3 [.fsl o 3 (l.map Item.row)] H = some (oA H.length 3 l.length, H ++ [oT 3 (l.map Item.row)]) := fun o H => by rw [cloneU_fsl (by decide) hl2]; simp
  have u2 : ∀ (o : Bool) (H : Heap), cloneU 20 [.fsl o 20 (m.map Pp.row)] H = some (oA H.length 20 m.length, H ++ [oT 20 (m.map Pp.row)]) := fun o H => by rw [cloneU_fsl (by decide) hm2]; simp
  have hsame : ∀ G, PB l h m T G → C.pure 12 [cold (view G 4 (.ptr 0 2 0 0)), cold (view G 4 (.ptr 5 1 0 0)), cold (view G 4 (.ptr 2 2 0 0)), cold (view G 4 (.ptr 6 1 0 0))] = some (.v (.bool true)) := by
    intro G hb
    rw [ch0]
    simp only [argM, hb.d0, hb.d5, hb.d2, hb.d6, finM]
    rw [if_pos ⟨by simpa using hl2, by simpa using hm2⟩]
    simp
  have hs0 := fun x K => hsame _ (@PB.ofCons l h m T x K)
  have hnm : ¬ Try.f12.name = "runtime.NumGoroutine" := by decide
  obtain ⟨⟨o1, L1, h1, e1⟩, hq1⟩ : ∃ q, clkX (clkPut ⟨l, h⟩ x.id) = q := ⟨_, rfl⟩
  obtain ⟨⟨o2, L2, h2, e2⟩, hq2⟩ : ∃ q, clkX (clkMark ⟨l, h⟩ x) = q := ⟨_, rfl⟩
  obtain ⟨⟨o3, L3, h3, i3, n3, e3⟩, hq3⟩ : ∃ q, nextX (clkNext ⟨l, h⟩) = q := ⟨_, rfl⟩
  obtain ⟨⟨o4, L4, h4, e4⟩, hq4⟩ : ∃ q, caX (caSet ⟨m, T⟩ f n 0 9) = q := ⟨_, rfl⟩
  obtain ⟨⟨o5, L5, h5, e5⟩, hq5⟩ : ∃ q, caX (caBring ⟨m, T⟩ f n ⟨0, 0, 0, 0, 0, 0, 0, 0, 0, 0, 0, 0, 0, 0, 0, 0⟩) = q := ⟨_, rfl⟩
  obtain ⟨⟨o6, L6, h6, p6, b6, e6⟩, hq6⟩ : ∃ q, backX ⟨m, T⟩ = q := ⟨_, rfl⟩
  obtain ⟨⟨o7, L7, h7, e7⟩, hq7⟩ : ∃ q, caX (caOut ⟨m, T⟩ f n) = q := ⟨_, rfl⟩
  simp [Try.ntmps3, Try.results3, cSl, cp0, cp1, cn0, cn1, cn2, cn3, cn4, cn5, cn6, cn7, cn8, cI, cD, cR, cF, cA, -view, -cold, -cellsOf, rClk, clkDec, Clk.row, rCa, caDec, Ca.row, rItem, Item.row, itemDec, rPp, rPg, pgDec, Pg.row, u1, u2]
  refine ⟨([(3, .v (.int .i64 f)), (4, .v (.int .i64 n)), (5, .ptr 0 2 0 0), (6, .ptr 1 3 0 0), (7, .ptr 2 2 0 0), (10, .v (.bool false)), (11, .ptr 5 1 0 0), (12, .ptr 6 1 0 0)], [some (2, [[.fsl false 3 (l.map Item.row), .v (.int .i64 h)]]), some (3, [[.v (.int .i64 x.id), .v (.bool x.used), .v (.bool x.pinned)]]), some (2, [[.fsl false 20 (m.map Pp.row), .v (.int .i64 T)]]), oT 3 (l.map Item.row), oT 20 (m.map Pp.row), some (1, [[oA 3 3 l.length]]), some (1, [[oA 4 20 m.length]])]), ?_, ?_⟩
  · simp [Try.ntmps3, Try.results3, cSl, cp0, cp1, cn0, cn1, cn2, cn3, cn4, cn5, cn6, cn7, cn8, cI, cD, cR, cF, cA, -view, -cold, -cellsOf, -tauO, rClk, clkDec, Clk.row, rCa, caDec, Ca.row, rItem, Item.row, itemDec, rPp, rPg, pgDec, Pg.row, u1, u2, hs0, hnm, vwC, vwP, vwV, vwI, clkU, caU, nextU, backU, hq1, hq2, hq3, hq4, hq5, hq6, hq7, ppV]
    have n1 : L1.length ≤ 4294967296 := by have := @clkPut_len ⟨l, h⟩ x.id; rw [hq1] at this; simp at this; omega
    have n2 : L2.length ≤ 4294967296 := by have := @clkMark_len ⟨l, h⟩ x; rw [hq2] at this; simp at this; omega
    have n3' : L3.length ≤ 4294967296 := by have := @clkNext_len ⟨l, h⟩; rw [hq3] at this; simp at this; omega
    have n4 : L4.length ≤ 4294967296 := by have := @caSet_len ⟨m, T⟩ f n 0 9; rw [hq4] at this; simp at this; omega
    have n5 : L5.length ≤ 4294967296 := by have := @caBring_len ⟨m, T⟩ f n ⟨0, 0, 0, 0, 0, 0, 0, 0, 0, 0, 0, 0, 0, 0, 0, 0⟩; rw [hq5] at this; simp at this; omega
    have n6 : L6.length ≤ 4294967296 := by have := @backX_len ⟨m, T⟩; rw [hq6] at this; simp at this; omega
    have n7 : L7.length ≤ 4294967296 := by have := @caOut_len ⟨m, T⟩ f n; rw [hq7] at this; simp at this; omega
    refine loop_forE 3 (fun k (G : Heap) => ([(13, .fn 12 [.ptr 0 2 0 0, .ptr 5 1 0 0, .ptr 2 2 0 0, .ptr 6 1 0 0]), (22, .ptr 14 2 0 0), (24, .ptr 16 2 0 0), (26, .ptr 18 2 0 0), (30, .ptr 21 2 0 0), (32, .v (.bool true)), (106, .agg [okL o1 7 3 L1.length, .v (.int .i64 h1), okL o2 9 3 L2.length, .v (.int .i64 h2), okL o3 11 3 L3.length, .v (.int .i64 h3)]), (107, .v (.int .i64 k))], G)) (fun k G => PI l h m T o1 o2 o3 o4 o5 o6 o7 L1.length L2.length L3.length L4.length L5.length L6.length L7.length h4 h5 h6 h7 G) _ (fun k _ hk _ => by omega) ?_ (Ent.env (by simp)) ?_ ?_
    · refine ⟨PB.ofCons, fun e => ⟨L1, rfl, by simp [e, okO, obj]⟩, fun e => ⟨L2, rfl, by simp [e, okO, obj]⟩, fun e => ⟨L3, rfl, by simp [e, okO, obj]⟩, fun e => ⟨L4, rfl, by simp [e, okO, obj]⟩, fun e => ⟨L5, rfl, by simp [e, okO, obj]⟩, fun e => ⟨L6, rfl, by simp [e, okO, obj]⟩, fun e => ⟨L7, rfl, by simp [e, okO, obj]⟩, rfl, rfl, rfl, rfl⟩
    · rintro k G hk hp hw
      rcases (by omega : k = 0 ∨ k = 1 ∨ k = 2) with rfl | rfl | rfl
      · cases o1 with
        | false =>
          simp [Try.ntmps3, Try.results3, cSl, cp0, cp1, cn0, cn1, cn2, cn3, cn4, cn5, cn6, cn7, cn8, cI, cD, cR, cF, cA, -view, -cold, -cellsOf, -oneA, -allOneA, one_esl, one_osl, one_int, allOne_nil, allOne_cons, okLf, cells_okc]
          refine loop_forE 0 (fun j (_ : Unit) => ([(13, .fn 12 [.ptr 0 2 0 0, .ptr 5 1 0 0, .ptr 2 2 0 0, .ptr 6 1 0 0]), (22, .ptr 14 2 0 0), (24, .ptr 16 2 0 0), (26, .ptr 18 2 0 0), (30, .ptr 21 2 0 0), (32, .v (.bool true)), (34, .ptr G.length 2 0 0), (106, .agg [(okL false 7 3 L1.length), .v (.int .i64 h1), (okL o2 9 3 L2.length), .v (.int .i64 h2), (okL o3 11 3 L3.length), .v (.int .i64 h3)]), (107, .v (.int .i64 0)), (112, .v (.int .i64 0)), (113, .v (.int .i64 j))], G ++ [some (2, [[.esl, .v (.int .i64 h1)]])])) (fun j _ => True) () (fun j _ hj _ => by omega) trivial ?_ (fun j _ hj => by omega) ?_
          · exact Ent.env (by simp [okLf])
          rintro _ _
          simp [Try.ntmps3, Try.results3, cSl, cp0, cp1, cn0, cn1, cn2, cn3, cn4, cn5, cn6, cn7, cn8, cI, cD, cR, cF, cA, -view, -cold, -cellsOf, -oneA, -allOneA, one_esl, one_osl, one_int, allOne_nil, allOne_cons, okLf, cells_okc]
          exact ⟨_, hp.app _, Ent.env (by simp [okLf])⟩
        | true =>
          obtain ⟨W, hW, hob⟩ := hp.l1 rfl
          clear W hW hob
          simp [Try.ntmps3, Try.results3, cSl, cp0, cp1, cn0, cn1, cn2, cn3, cn4, cn5, cn6, cn7, cn8, cI, cD, cR, cF, cA, -view, -cold, -cellsOf, -oneA, -allOneA, one_esl, one_osl, one_int, allOne_nil, allOne_cons, okLt, cells_okc]
          refine loop_forE L1.length (fun j (X : Heap) => ([(13, .fn 12 [.ptr 0 2 0 0, .ptr 5 1 0 0, .ptr 2 2 0 0, .ptr 6 1 0 0]), (22, .ptr 14 2 0 0), (24, .ptr 16 2 0 0), (26, .ptr 18 2 0 0), (30, .ptr 21 2 0 0), (32, .v (.bool true)), (34, .ptr G.length 2 0 0), (106, .agg [(okL true 7 3 L1.length), .v (.int .i64 h1), (okL o2 9 3 L2.length), .v (.int .i64 h2), (okL o3 11 3 L3.length), .v (.int .i64 h3)]), (107, .v (.int .i64 0)), (112, .v (.int .i64 L1.length)), (113, .v (.int .i64 j))], X ++ [some (2, [[.osl 7 3 0 L1.length L1.length, .v (.int .i64 h1)]])])) (fun j X => PI l h m T true o2 o3 o4 o5 o6 o7 L1.length L2.length L3.length L4.length L5.length L6.length L7.length h4 h5 h6 h7 X ∧ X.length = G.length) G (fun j _ hj _ => by omega) ⟨hp, rfl⟩ ?_ ?_ ?_
          · exact Ent.env (by simp [okLt])
          · rintro j X hj ⟨hp, hXl⟩ hw2
            obtain ⟨W, hW, hob⟩ := hp.l1 rfl
            have hg := obj_get hob
            have hi := obj_lt hob
            have hgi := (List.getElem?_eq_some_iff.1 hg).2
            have hjW : j < W.length := by omega
            have eX : ∀ o : Option (Nat × List Row), (X ++ [o])[G.length]? = some o := fun o => by rw [← hXl]; simp
            have eW : ∀ o : Option (Nat × List Row), (X ++ [o])[7]? = some (some (3, W.map Item.row)) := fun o => by rw [List.getElem?_append_left hi]; exact hg
            simp [Try.ntmps3, Try.results3, cSl, cp0, cp1, cn0, cn1, cn2, cn3, cn4, cn5, cn6, cn7, cn8, cI, cD, cR, cF, cA, -view, -cold, -cellsOf, -oneA, -allOneA, one_esl, one_osl, one_int, allOne_nil, allOne_cons, okLt, cells_okc, hw2, eX, eW, hW, hj, hjW, hXl, hi, hgi, Item.row, Pp.row, Pg.row]
            refine ⟨X.set 7 (some (3, (W.set j ⟨W[j].id, !W[j].used, W[j].pinned⟩).map Item.row)), ⟨hp.s1 (by rw [List.length_set]; exact hW), by rw [List.length_set]; exact hXl⟩, ?_⟩
            dsimp only
            rw [List.map_set, ← List.set_append_left _ _ hi]
            exact Ent.env (by simp [okLt])
          · rintro X ⟨hp, hXl⟩
            simp [Try.ntmps3, Try.results3, cSl, cp0, cp1, cn0, cn1, cn2, cn3, cn4, cn5, cn6, cn7, cn8, cI, cD, cR, cF, cA, -view, -cold, -cellsOf, -oneA, -allOneA, one_esl, one_osl, one_int, allOne_nil, allOne_cons, okLt, cells_okc]
            exact ⟨_, hp.app _, Ent.env (by simp [okLt])⟩
      · cases o2 with
        | false =>
          simp [Try.ntmps3, Try.results3, cSl, cp0, cp1, cn0, cn1, cn2, cn3, cn4, cn5, cn6, cn7, cn8, cI, cD, cR, cF, cA, -view, -cold, -cellsOf, -oneA, -allOneA, one_esl, one_osl, one_int, allOne_nil, allOne_cons, okLf, cells_okc]
          refine loop_forE 0 (fun j (_ : Unit) => ([(13, .fn 12 [.ptr 0 2 0 0, .ptr 5 1 0 0, .ptr 2 2 0 0, .ptr 6 1 0 0]), (22, .ptr 14 2 0 0), (24, .ptr 16 2 0 0), (26, .ptr 18 2 0 0), (30, .ptr 21 2 0 0), (32, .v (.bool true)), (34, .ptr G.length 2 0 0), (106, .agg [(okL o1 7 3 L1.length), .v (.int .i64 h1), (okL false 9 3 L2.length), .v (.int .i64 h2), (okL o3 11 3 L3.length), .v (.int .i64 h3)]), (107, .v (.int .i64 1)), (112, .v (.int .i64 0)), (113, .v (.int .i64 j))], G ++ [some (2, [[.esl, .v (.int .i64 h2)]])])) (fun j _ => True) () (fun j _ hj _ => by omega) trivial ?_ (fun j _ hj => by omega) ?_
          · exact Ent.env (by simp [okLf])
          rintro _ _
          simp [Try.ntmps3, Try.results3, cSl, cp0, cp1, cn0, cn1, cn2, cn3, cn4, cn5, cn6, cn7, cn8, cI, cD, cR, cF, cA, -view, -cold, -cellsOf, -oneA, -allOneA, one_esl, one_osl, one_int, allOne_nil, allOne_cons, okLf, cells_okc]
          exact ⟨_, hp.app _, Ent.env (by simp [okLf])⟩
        | true =>
          obtain ⟨W, hW, hob⟩ := hp.l2 rfl
          clear W hW hob
          simp [Try.ntmps3, Try.results3, cSl, cp0, cp1, cn0, cn1, cn2, cn3, cn4, cn5, cn6, cn7, cn8, cI, cD, cR, cF, cA, -view, -cold, -cellsOf, -oneA, -allOneA, one_esl, one_osl, one_int, allOne_nil, allOne_cons, okLt, cells_okc]
          refine loop_forE L2.length (fun j (X : Heap) => ([(13, .fn 12 [.ptr 0 2 0 0, .ptr 5 1 0 0, .ptr 2 2 0 0, .ptr 6 1 0 0]), (22, .ptr 14 2 0 0), (24, .ptr 16 2 0 0), (26, .ptr 18 2 0 0), (30, .ptr 21 2 0 0), (32, .v (.bool true)), (34, .ptr G.length 2 0 0), (106, .agg [(okL o1 7 3 L1.length), .v (.int .i64 h1), (okL true 9 3 L2.length), .v (.int .i64 h2), (okL o3 11 3 L3.length), .v (.int .i64 h3)]), (107, .v (.int .i64 1)), (112, .v (.int .i64 L2.length)), (113, .v (.int .i64 j))], X ++ [some (2, [[.osl 9 3 0 L2.length L2.length, .v (.int .i64 h2)]])])) (fun j X => PI l h m T o1 true o3 o4 o5 o6 o7 L1.length L2.length L3.length L4.length L5.length L6.length L7.length h4 h5 h6 h7 X ∧ X.length = G.length) G (fun j _ hj _ => by omega) ⟨hp, rfl⟩ ?_ ?_ ?_
          · exact Ent.env (by simp [okLt])
          · rintro j X hj ⟨hp, hXl⟩ hw2
            obtain ⟨W, hW, hob⟩ := hp.l2 rfl
            have hg := obj_get hob
            have hi := obj_lt hob
            have hgi := (List.getElem?_eq_some_iff.1 hg).2
            have hjW : j < W.length := by omega
            have eX : ∀ o : Option (Nat × List Row), (X ++ [o])[G.length]? = some o := fun o => by rw [← hXl]; simp
            have eW : ∀ o : Option (Nat × List Row), (X ++ [o])[9]? = some (some (3, W.map Item.row)) := fun o => by rw [List.getElem?_append_left hi]; exact hg
            simp [Try.ntmps3, Try.results3, cSl, cp0, cp1, cn0, cn1, cn2, cn3, cn4, cn5, cn6, cn7, cn8, cI, cD, cR, cF, cA, -view, -cold, -cellsOf, -oneA, -allOneA, one_esl, one_osl, one_int, allOne_nil, allOne_cons, okLt, cells_okc, hw2, eX, eW, hW, hj, hjW, hXl, hi, hgi, Item.row, Pp.row, Pg.row]
            refine ⟨X.set 9 (some (3, (W.set j ⟨W[j].id, !W[j].used, W[j].pinned⟩).map Item.row)), ⟨hp.s2 (by rw [List.length_set]; exact hW), by rw [List.length_set]; exact hXl⟩, ?_⟩
            dsimp only
            rw [List.map_set, ← List.set_append_left _ _ hi]
            exact Ent.env (by simp [okLt])
          · rintro X ⟨hp, hXl⟩
            simp [Try.ntmps3, Try.results3, cSl, cp0, cp1, cn0, cn1, cn2, cn3, cn4, cn5, cn6, cn7, cn8, cI, cD, cR, cF, cA, -view, -cold, -cellsOf, -oneA, -allOneA, one_esl, one_osl, one_int, allOne_nil, allOne_cons, okLt, cells_okc]
            exact ⟨_, hp.app _, Ent.env (by simp [okLt])⟩
      · cases o3 with
        | false =>
          simp [Try.ntmps3, Try.results3, cSl, cp0, cp1, cn0, cn1, cn2, cn3, cn4, cn5, cn6, cn7, cn8, cI, cD, cR, cF, cA, -view, -cold, -cellsOf, -oneA, -allOneA, one_esl, one_osl, one_int, allOne_nil, allOne_cons, okLf, cells_okc]
          refine loop_forE 0 (fun j (_ : Unit) => ([(13, .fn 12 [.ptr 0 2 0 0, .ptr 5 1 0 0, .ptr 2 2 0 0, .ptr 6 1 0 0]), (22, .ptr 14 2 0 0), (24, .ptr 16 2 0 0), (26, .ptr 18 2 0 0), (30, .ptr 21 2 0 0), (32, .v (.bool true)), (34, .ptr G.length 2 0 0), (106, .agg [(okL o1 7 3 L1.length), .v (.int .i64 h1), (okL o2 9 3 L2.length), .v (.int .i64 h2), (okL false 11 3 L3.length), .v (.int .i64 h3)]), (107, .v (.int .i64 2)), (112, .v (.int .i64 0)), (113, .v (.int .i64 j))], G ++ [some (2, [[.esl, .v (.int .i64 h3)]])])) (fun j _ => True) () (fun j _ hj _ => by omega) trivial ?_ (fun j _ hj => by omega) ?_
          · exact Ent.env (by simp [okLf])
          rintro _ _
          simp [Try.ntmps3, Try.results3, cSl, cp0, cp1, cn0, cn1, cn2, cn3, cn4, cn5, cn6, cn7, cn8, cI, cD, cR, cF, cA, -view, -cold, -cellsOf, -oneA, -allOneA, one_esl, one_osl, one_int, allOne_nil, allOne_cons, okLf, cells_okc]
          exact ⟨_, hp.app _, Ent.env (by simp [okLf])⟩
        | true =>
          obtain ⟨W, hW, hob⟩ := hp.l3 rfl
          clear W hW hob
          simp [Try.ntmps3, Try.results3, cSl, cp0, cp1, cn0, cn1, cn2, cn3, cn4, cn5, cn6, cn7, cn8, cI, cD, cR, cF, cA, -view, -cold, -cellsOf, -oneA, -allOneA, one_esl, one_osl, one_int, allOne_nil, allOne_cons, okLt, cells_okc]
          refine loop_forE L3.length (fun j (X : Heap) => ([(13, .fn 12 [.ptr 0 2 0 0, .ptr 5 1 0 0, .ptr 2 2 0 0, .ptr 6 1 0 0]), (22, .ptr 14 2 0 0), (24, .ptr 16 2 0 0), (26, .ptr 18 2 0 0), (30, .ptr 21 2 0 0), (32, .v (.bool true)), (34, .ptr G.length 2 0 0), (106, .agg [(okL o1 7 3 L1.length), .v (.int .i64 h1), (okL o2 9 3 L2.length), .v (.int .i64 h2), (okL true 11 3 L3.length), .v (.int .i64 h3)]), (107, .v (.int .i64 2)), (112, .v (.int .i64 L3.length)), (113, .v (.int .i64 j))], X ++ [some (2, [[.osl 11 3 0 L3.length L3.length, .v (.int .i64 h3)]])])) (fun j X => PI l h m T o1 o2 true o4 o5 o6 o7 L1.length L2.length L3.length L4.length L5.length L6.length L7.length h4 h5 h6 h7 X ∧ X.length = G.length) G (fun j _ hj _ => by omega) ⟨hp, rfl⟩ ?_ ?_ ?_
          · exact Ent.env (by simp [okLt])
          · rintro j X hj ⟨hp, hXl⟩ hw2
            obtain ⟨W, hW, hob⟩ := hp.l3 rfl
            have hg := obj_get hob
            have hi := obj_lt hob
            have hgi := (List.getElem?_eq_some_iff.1 hg).2
            have hjW : j < W.length := by omega
            have eX : ∀ o : Option (Nat × List Row), (X ++ [o])[G.length]? = some o := fun o => by rw [← hXl]; simp
            have eW : ∀ o : Option (Nat × List Row), (X ++ [o])[11]? = some (some (3, W.map Item.row)) := fun o => by rw [List.getElem?_append_left hi]; exact hg
            simp [Try.ntmps3, Try.results3, cSl, cp0, cp1, cn0, cn1, cn2, cn3, cn4, cn5, cn6, cn7, cn8, cI, cD, cR, cF, cA, -view, -cold, -cellsOf, -oneA, -allOneA, one_esl, one_osl, one_int, allOne_nil, allOne_cons, okLt, cells_okc, hw2, eX, eW, hW, hj, hjW, hXl, hi, hgi, Item.row, Pp.row, Pg.row]
            refine ⟨X.set 11 (some (3, (W.set j ⟨W[j].id, !W[j].used, W[j].pinned⟩).map Item.row)), ⟨hp.s3 (by rw [List.length_set]; exact hW), by rw [List.length_set]; exact hXl⟩, ?_⟩
            dsimp only
            rw [List.map_set, ← List.set_append_left _ _ hi]
            exact Ent.env (by simp [okLt])
          · rintro X ⟨hp, hXl⟩
            simp [Try.ntmps3, Try.results3, cSl, cp0, cp1, cn0, cn1, cn2, cn3, cn4, cn5, cn6, cn7, cn8, cI, cD, cR, cF, cA, -view, -cold, -cellsOf, -oneA, -allOneA, one_esl, one_osl, one_int, allOne_nil, allOne_cons, okLt, cells_okc]
            exact ⟨_, hp.app _, Ent.env (by simp [okLt])⟩
    · rintro G hp
      have e14 := obj_get hp.b4
      have e16 := obj_get hp.b5
      have e18 := obj_get hp.b6
      have e21 := obj_get hp.b7
      have gl := hp.len
      have g14 := (List.getElem?_eq_some_iff.1 e14).2
      have g16 := (List.getElem?_eq_some_iff.1 e16).2
      have g18 := (List.getElem?_eq_some_iff.1 e18).2
      have g21 := (List.getElem?_eq_some_iff.1 e21).2
      simp [Try.ntmps3, Try.results3, cSl, cp0, cp1, cn0, cn1, cn2, cn3, cn4, cn5, cn6, cn7, cn8, cI, cD, cR, cF, cA, -view, -cold, -cellsOf, -oneA, -allOneA, one_esl, one_osl, one_int, allOne_nil, allOne_cons, e14, e16, e18, e21, g14, g16, g18, g21, gl]
      refine loop_forE 4 (fun k (G : Heap) => ([(13, .fn 12 [.ptr 0 2 0 0, .ptr 5 1 0 0, .ptr 2 2 0 0, .ptr 6 1 0 0]), (32, .v (.bool true)), (134, .agg [(okL o4 13 20 L4.length), .v (.int .i64 h4), (okL o5 15 20 L5.length), .v (.int .i64 h5), (okL o6 17 20 L6.length), .v (.int .i64 h6), (okL o7 20 20 L7.length), .v (.int .i64 h7)]), (135, .v (.int .i64 k))], G)) (fun k G => PI l h m T o1 o2 o3 o4 o5 o6 o7 L1.length L2.length L3.length L4.length L5.length L6.length L7.length h4 h5 h6 h7 G) G (fun k _ hk _ => by omega) hp ?_ ?_ ?_
      · exact Ent.env (by simp)
      · rintro k G hk hp hw
        clear e14 e16 e18 e21 gl g14 g16 g18 g21
        rcases (by omega : k = 0 ∨ k = 1 ∨ k = 2 ∨ k = 3) with rfl | rfl | rfl | rfl
        · cases o4 with
          | false =>
            simp [Try.ntmps3, Try.results3, cSl, cp0, cp1, cn0, cn1, cn2, cn3, cn4, cn5, cn6, cn7, cn8, cI, cD, cR, cF, cA, -view, -cold, -cellsOf, -oneA, -allOneA, one_esl, one_osl, one_int, allOne_nil, allOne_cons, okLf, cells_okc]
            refine loop_forE 0 (fun j (_ : Unit) => ([(13, .fn 12 [.ptr 0 2 0 0, .ptr 5 1 0 0, .ptr 2 2 0 0, .ptr 6 1 0 0]), (32, .v (.bool true)), (37, .ptr G.length 2 0 0), (134, .agg [(okL false 13 20 L4.length), .v (.int .i64 h4), (okL o5 15 20 L5.length), .v (.int .i64 h5), (okL o6 17 20 L6.length), .v (.int .i64 h6), (okL o7 20 20 L7.length), .v (.int .i64 h7)]), (135, .v (.int .i64 0)), (140, .v (.int .i64 0)), (141, .v (.int .i64 j))], G ++ [some (2, [[.esl, .v (.int .i64 h4)]])])) (fun j _ => True) () (fun j _ hj _ => by omega) trivial ?_ (fun j _ hj => by omega) ?_
            · exact Ent.env (by simp [okLf])
            rintro _ _
            simp [Try.ntmps3, Try.results3, cSl, cp0, cp1, cn0, cn1, cn2, cn3, cn4, cn5, cn6, cn7, cn8, cI, cD, cR, cF, cA, -view, -cold, -cellsOf, -oneA, -allOneA, one_esl, one_osl, one_int, allOne_nil, allOne_cons, okLf, cells_okc]
            exact ⟨_, hp.app _, Ent.env (by simp [okLf])⟩
          | true =>
            obtain ⟨W, hW, hob⟩ := hp.l4 rfl
            clear W hW hob
            simp [Try.ntmps3, Try.results3, cSl, cp0, cp1, cn0, cn1, cn2, cn3, cn4, cn5, cn6, cn7, cn8, cI, cD, cR, cF, cA, -view, -cold, -cellsOf, -oneA, -allOneA, one_esl, one_osl, one_int, allOne_nil, allOne_cons, okLt, cells_okc]
            refine loop_forE L4.length (fun j (X : Heap) => ([(13, .fn 12 [.ptr 0 2 0 0, .ptr 5 1 0 0, .ptr 2 2 0 0, .ptr 6 1 0 0]), (32, .v (.bool true)), (37, .ptr G.length 2 0 0), (134, .agg [(okL true 13 20 L4.length), .v (.int .i64 h4), (okL o5 15 20 L5.length), .v (.int .i64 h5), (okL o6 17 20 L6.length), .v (.int .i64 h6), (okL o7 20 20 L7.length), .v (.int .i64 h7)]), (135, .v (.int .i64 0)), (140, .v (.int .i64 L4.length)), (141, .v (.int .i64 j))], X ++ [some (2, [[.osl 13 20 0 L4.length L4.length, .v (.int .i64 h4)]])])) (fun j X => PI l h m T o1 o2 o3 true o5 o6 o7 L1.length L2.length L3.length L4.length L5.length L6.length L7.length h4 h5 h6 h7 X ∧ X.length = G.length) G (fun j _ hj _ => by omega) ⟨hp, rfl⟩ ?_ ?_ ?_
            · exact Ent.env (by simp [okLt])
            · rintro j X hj ⟨hp, hXl⟩ hw2
              obtain ⟨W, hW, hob⟩ := hp.l4 rfl
              have hg := obj_get hob
              have hi := obj_lt hob
              have hgi := (List.getElem?_eq_some_iff.1 hg).2
              have hjW : j < W.length := by omega
              have eX : ∀ o : Option (Nat × List Row), (X ++ [o])[G.length]? = some o := fun o => by rw [← hXl]; simp
              have eW : ∀ o : Option (Nat × List Row), (X ++ [o])[13]? = some (some (20, W.map Pp.row)) := fun o => by rw [List.getElem?_append_left hi]; exact hg
              simp [Try.ntmps3, Try.results3, cSl, cp0, cp1, cn0, cn1, cn2, cn3, cn4, cn5, cn6, cn7, cn8, cI, cD, cR, cF, cA, -view, -cold, -cellsOf, -oneA, -allOneA, one_esl, one_osl, one_int, allOne_nil, allOne_cons, okLt, cells_okc, hw2, eX, eW, hW, hj, hjW, hXl, hi, hgi, Item.row, Pp.row, Pg.row]
              refine ⟨X.set 13 (some (20, (W.set j ⟨W[j].file, W[j].n, IntKind.i64.wrap (W[j].maps + 1), W[j].dirty, W[j].data⟩).map Pp.row)), ⟨hp.s4 (by rw [List.length_set]; exact hW), by rw [List.length_set]; exact hXl⟩, ?_⟩
              dsimp only
              rw [List.map_set, ← List.set_append_left _ _ hi]
              exact Ent.env (by simp [okLt])
            · rintro X ⟨hp, hXl⟩
              simp [Try.ntmps3, Try.results3, cSl, cp0, cp1, cn0, cn1, cn2, cn3, cn4, cn5, cn6, cn7, cn8, cI, cD, cR, cF, cA, -view, -cold, -cellsOf, -oneA, -allOneA, one_esl, one_osl, one_int, allOne_nil, allOne_cons, okLt, cells_okc]
              exact ⟨_, hp.app _, Ent.env (by simp [okLt])⟩
        · cases o5 with
          | false =>
            simp [Try.ntmps3, Try.results3, cSl, cp0, cp1, cn0, cn1, cn2, cn3, cn4, cn5, cn6, cn7, cn8, cI, cD, cR, cF, cA, -view, -cold, -cellsOf, -oneA, -allOneA, one_esl, one_osl, one_int, allOne_nil, allOne_cons, okLf, cells_okc]
            refine loop_forE 0 (fun j (_ : Unit) => ([(13, .fn 12 [.ptr 0 2 0 0, .ptr 5 1 0 0, .ptr 2 2 0 0, .ptr 6 1 0 0]), (32, .v (.bool true)), (37, .ptr G.length 2 0 0), (134, .agg [(okL o4 13 20 L4.length), .v (.int .i64 h4), (okL false 15 20 L5.length), .v (.int .i64 h5), (okL o6 17 20 L6.length), .v (.int .i64 h6), (okL o7 20 20 L7.length), .v (.int .i64 h7)]), (135, .v (.int .i64 1)), (140, .v (.int .i64 0)), (141, .v (.int .i64 j))], G ++ [some (2, [[.esl, .v (.int .i64 h5)]])])) (fun j _ => True) () (fun j _ hj _ => by omega) trivial ?_ (fun j _ hj => by omega) ?_
            · exact Ent.env (by simp [okLf])
            rintro _ _
            simp [Try.ntmps3, Try.results3, cSl, cp0, cp1, cn0, cn1, cn2, cn3, cn4, cn5, cn6, cn7, cn8, cI, cD, cR, cF, cA, -view, -cold, -cellsOf, -oneA, -allOneA, one_esl, one_osl, one_int, allOne_nil, allOne_cons, okLf, cells_okc]
            exact ⟨_, hp.app _, Ent.env (by simp [okLf])⟩
          | true =>
            obtain ⟨W, hW, hob⟩ := hp.l5 rfl
            clear W hW hob
            simp [Try.ntmps3, Try.results3, cSl, cp0, cp1, cn0, cn1, cn2, cn3, cn4, cn5, cn6, cn7, cn8, cI, cD, cR, cF, cA, -view, -cold, -cellsOf, -oneA, -allOneA, one_esl, one_osl, one_int, allOne_nil, allOne_cons, okLt, cells_okc]
            refine loop_forE L5.length (fun j (X : Heap) => ([(13, .fn 12 [.ptr 0 2 0 0, .ptr 5 1 0 0, .ptr 2 2 0 0, .ptr 6 1 0 0]), (32, .v (.bool true)), (37, .ptr G.length 2 0 0), (134, .agg [(okL o4 13 20 L4.length), .v (.int .i64 h4), (okL true 15 20 L5.length), .v (.int .i64 h5), (okL o6 17 20 L6.length), .v (.int .i64 h6), (okL o7 20 20 L7.length), .v (.int .i64 h7)]), (135, .v (.int .i64 1)), (140, .v (.int .i64 L5.length)), (141, .v (.int .i64 j))], X ++ [some (2, [[.osl 15 20 0 L5.length L5.length, .v (.int .i64 h5)]])])) (fun j X => PI l h m T o1 o2 o3 o4 true o6 o7 L1.length L2.length L3.length L4.length L5.length L6.length L7.length h4 h5 h6 h7 X ∧ X.length = G.length) G (fun j _ hj _ => by omega) ⟨hp, rfl⟩ ?_ ?_ ?_
            · exact Ent.env (by simp [okLt])
            · rintro j X hj ⟨hp, hXl⟩ hw2
              obtain ⟨W, hW, hob⟩ := hp.l5 rfl
              have hg := obj_get hob
              have hi := obj_lt hob
              have hgi := (List.getElem?_eq_some_iff.1 hg).2
              have hjW : j < W.length := by omega
              have eX : ∀ o : Option (Nat × List Row), (X ++ [o])[G.length]? = some o := fun o => by rw [← hXl]; simp
              have eW : ∀ o : Option (Nat × List Row), (X ++ [o])[15]? = some (some (20, W.map Pp.row)) := fun o => by rw [List.getElem?_append_left hi]; exact hg
              simp [Try.ntmps3, Try.results3, cSl, cp0, cp1, cn0, cn1, cn2, cn3, cn4, cn5, cn6, cn7, cn8, cI, cD, cR, cF, cA, -view, -cold, -cellsOf, -oneA, -allOneA, one_esl, one_osl, one_int, allOne_nil, allOne_cons, okLt, cells_okc, hw2, eX, eW, hW, hj, hjW, hXl, hi, hgi, Item.row, Pp.row, Pg.row]
              refine ⟨X.set 15 (some (20, (W.set j ⟨W[j].file, W[j].n, IntKind.i64.wrap (W[j].maps + 1), W[j].dirty, W[j].data⟩).map Pp.row)), ⟨hp.s5 (by rw [List.length_set]; exact hW), by rw [List.length_set]; exact hXl⟩, ?_⟩
              dsimp only
              rw [List.map_set, ← List.set_append_left _ _ hi]
              exact Ent.env (by simp [okLt])
            · rintro X ⟨hp, hXl⟩
              simp [Try.ntmps3, Try.results3, cSl, cp0, cp1, cn0, cn1, cn2, cn3, cn4, cn5, cn6, cn7, cn8, cI, cD, cR, cF, cA, -view, -cold, -cellsOf, -oneA, -allOneA, one_esl, one_osl, one_int, allOne_nil, allOne_cons, okLt, cells_okc]
              exact ⟨_, hp.app _, Ent.env (by simp [okLt])⟩
        · cases o6 with
          | false =>
            simp [Try.ntmps3, Try.results3, cSl, cp0, cp1, cn0, cn1, cn2, cn3, cn4, cn5, cn6, cn7, cn8, cI, cD, cR, cF, cA, -view, -cold, -cellsOf, -oneA, -allOneA, one_esl, one_osl, one_int, allOne_nil, allOne_cons, okLf, cells_okc]
            refine loop_forE 0 (fun j (_ : Unit) => ([(13, .fn 12 [.ptr 0 2 0 0, .ptr 5 1 0 0, .ptr 2 2 0 0, .ptr 6 1 0 0]), (32, .v (.bool true)), (37, .ptr G.length 2 0 0), (134, .agg [(okL o4 13 20 L4.length), .v (.int .i64 h4), (okL o5 15 20 L5.length), .v (.int .i64 h5), (okL false 17 20 L6.length), .v (.int .i64 h6), (okL o7 20 20 L7.length), .v (.int .i64 h7)]), (135, .v (.int .i64 2)), (140, .v (.int .i64 0)), (141, .v (.int .i64 j))], G ++ [some (2, [[.esl, .v (.int .i64 h6)]])])) (fun j _ => True) () (fun j _ hj _ => by omega) trivial ?_ (fun j _ hj => by omega) ?_
            · exact Ent.env (by simp [okLf])
            rintro _ _
            simp [Try.ntmps3, Try.results3, cSl, cp0, cp1, cn0, cn1, cn2, cn3, cn4, cn5, cn6, cn7, cn8, cI, cD, cR, cF, cA, -view, -cold, -cellsOf, -oneA, -allOneA, one_esl, one_osl, one_int, allOne_nil, allOne_cons, okLf, cells_okc]
            exact ⟨_, hp.app _, Ent.env (by simp [okLf])⟩
          | true =>
            obtain ⟨W, hW, hob⟩ := hp.l6 rfl
            clear W hW hob
            simp [Try.ntmps3, Try.results3, cSl, cp0, cp1, cn0, cn1, cn2, cn3, cn4, cn5, cn6, cn7, cn8, cI, cD, cR, cF, cA, -view, -cold, -cellsOf, -oneA, -allOneA, one_esl, one_osl, one_int, allOne_nil, allOne_cons, okLt, cells_okc]
            refine loop_forE L6.length (fun j (X : Heap) => ([(13, .fn 12 [.ptr 0 2 0 0, .ptr 5 1 0 0, .ptr 2 2 0 0, .ptr 6 1 0 0]), (32, .v (.bool true)), (37, .ptr G.length 2 0 0), (134, .agg [(okL o4 13 20 L4.length), .v (.int .i64 h4), (okL o5 15 20 L5.length), .v (.int .i64 h5), (okL true 17 20 L6.length), .v (.int .i64 h6), (okL o7 20 20 L7.length), .v (.int .i64 h7)]), (135, .v (.int .i64 2)), (140, .v (.int .i64 L6.length)), (141, .v (.int .i64 j))], X ++ [some (2, [[.osl 17 20 0 L6.length L6.length, .v (.int .i64 h6)]])])) (fun j X => PI l h m T o1 o2 o3 o4 o5 true o7 L1.length L2.length L3.length L4.length L5.length L6.length L7.length h4 h5 h6 h7 X ∧ X.length = G.length) G (fun j _ hj _ => by omega) ⟨hp, rfl⟩ ?_ ?_ ?_
            · exact Ent.env (by simp [okLt])
            · rintro j X hj ⟨hp, hXl⟩ hw2
              obtain ⟨W, hW, hob⟩ := hp.l6 rfl
              have hg := obj_get hob
              have hi := obj_lt hob
              have hgi := (List.getElem?_eq_some_iff.1 hg).2
              have hjW : j < W.length := by omega
              have eX : ∀ o : Option (Nat × List Row), (X ++ [o])[G.length]? = some o := fun o => by rw [← hXl]; simp
              have eW : ∀ o : Option (Nat × List Row), (X ++ [o])[17]? = some (some (20, W.map Pp.row)) := fun o => by rw [List.getElem?_append_left hi]; exact hg
              simp [Try.ntmps3, Try.results3, cSl, cp0, cp1, cn0, cn1, cn2, cn3, cn4, cn5, cn6, cn7, cn8, cI, cD, cR, cF, cA, -view, -cold, -cellsOf, -oneA, -allOneA, one_esl, one_osl, one_int, allOne_nil, allOne_cons, okLt, cells_okc, hw2, eX, eW, hW, hj, hjW, hXl, hi, hgi, Item.row, Pp.row, Pg.row]
              refine ⟨X.set 17 (some (20, (W.set j ⟨W[j].file, W[j].n, IntKind.i64.wrap (W[j].maps + 1), W[j].dirty, W[j].data⟩).map Pp.row)), ⟨hp.s6 (by rw [List.length_set]; exact hW), by rw [List.length_set]; exact hXl⟩, ?_⟩
              dsimp only
              rw [List.map_set, ← List.set_append_left _ _ hi]
              exact Ent.env (by simp [okLt])
            · rintro X ⟨hp, hXl⟩
              simp [Try.ntmps3, Try.results3, cSl, cp0, cp1, cn0, cn1, cn2, cn3, cn4, cn5, cn6, cn7, cn8, cI, cD, cR, cF, cA, -view, -cold, -cellsOf, -oneA, -allOneA, one_esl, one_osl, one_int, allOne_nil, allOne_cons, okLt, cells_okc]
              exact ⟨_, hp.app _, Ent.env (by simp [okLt])⟩
        · cases o7 with
          | false =>
            simp [Try.ntmps3, Try.results3, cSl, cp0, cp1, cn0, cn1, cn2, cn3, cn4, cn5, cn6, cn7, cn8, cI, cD, cR, cF, cA, -view, -cold, -cellsOf, -oneA, -allOneA, one_esl, one_osl, one_int, allOne_nil, allOne_cons, okLf, cells_okc]
            refine loop_forE 0 (fun j (_ : Unit) => ([(13, .fn 12 [.ptr 0 2 0 0, .ptr 5 1 0 0, .ptr 2 2 0 0, .ptr 6 1 0 0]), (32, .v (.bool true)), (37, .ptr G.length 2 0 0), (134, .agg [(okL o4 13 20 L4.length), .v (.int .i64 h4), (okL o5 15 20 L5.length), .v (.int .i64 h5), (okL o6 17 20 L6.length), .v (.int .i64 h6), (okL false 20 20 L7.length), .v (.int .i64 h7)]), (135, .v (.int .i64 3)), (140, .v (.int .i64 0)), (141, .v (.int .i64 j))], G ++ [some (2, [[.esl, .v (.int .i64 h7)]])])) (fun j _ => True) () (fun j _ hj _ => by omega) trivial ?_ (fun j _ hj => by omega) ?_
            · exact Ent.env (by simp [okLf])
            rintro _ _
            simp [Try.ntmps3, Try.results3, cSl, cp0, cp1, cn0, cn1, cn2, cn3, cn4, cn5, cn6, cn7, cn8, cI, cD, cR, cF, cA, -view, -cold, -cellsOf, -oneA, -allOneA, one_esl, one_osl, one_int, allOne_nil, allOne_cons, okLf, cells_okc]
            exact ⟨_, hp.app _, Ent.env (by simp [okLf])⟩
          | true =>
            obtain ⟨W, hW, hob⟩ := hp.l7 rfl
            clear W hW hob
            simp [Try.ntmps3, Try.results3, cSl, cp0, cp1, cn0, cn1, cn2, cn3, cn4, cn5, cn6, cn7, cn8, cI, cD, cR, cF, cA, -view, -cold, -cellsOf, -oneA, -allOneA, one_esl, one_osl, one_int, allOne_nil, allOne_cons, okLt, cells_okc]
            refine loop_forE L7.length (fun j (X : Heap) => ([(13, .fn 12 [.ptr 0 2 0 0, .ptr 5 1 0 0, .ptr 2 2 0 0, .ptr 6 1 0 0]), (32, .v (.bool true)), (37, .ptr G.length 2 0 0), (134, .agg [(okL o4 13 20 L4.length), .v (.int .i64 h4), (okL o5 15 20 L5.length), .v (.int .i64 h5), (okL o6 17 20 L6.length), .v (.int .i64 h6), (okL true 20 20 L7.length), .v (.int .i64 h7)]), (135, .v (.int .i64 3)), (140, .v (.int .i64 L7.length)), (141, .v (.int .i64 j))], X ++ [some (2, [[.osl 20 20 0 L7.length L7.length, .v (.int .i64 h7)]])])) (fun j X => PI l h m T o1 o2 o3 o4 o5 o6 true L1.length L2.length L3.length L4.length L5.length L6.length L7.length h4 h5 h6 h7 X ∧ X.length = G.length) G (fun j _ hj _ => by omega) ⟨hp, rfl⟩ ?_ ?_ ?_
            · exact Ent.env (by simp [okLt])
            · rintro j X hj ⟨hp, hXl⟩ hw2
              obtain ⟨W, hW, hob⟩ := hp.l7 rfl
              have hg := obj_get hob
              have hi := obj_lt hob
              have hgi := (List.getElem?_eq_some_iff.1 hg).2
              have hjW : j < W.length := by omega
              have eX : ∀ o : Option (Nat × List Row), (X ++ [o])[G.length]? = some o := fun o => by rw [← hXl]; simp
              have eW : ∀ o : Option (Nat × List Row), (X ++ [o])[20]? = some (some (20, W.map Pp.row)) := fun o => by rw [List.getElem?_append_left hi]; exact hg
              simp [Try.ntmps3, Try.results3, cSl, cp0, cp1, cn0, cn1, cn2, cn3, cn4, cn5, cn6, cn7, cn8, cI, cD, cR, cF, cA, -view, -cold, -cellsOf, -oneA, -allOneA, one_esl, one_osl, one_int, allOne_nil, allOne_cons, okLt, cells_okc, hw2, eX, eW, hW, hj, hjW, hXl, hi, hgi, Item.row, Pp.row, Pg.row]
              refine ⟨X.set 20 (some (20, (W.set j ⟨W[j].file, W[j].n, IntKind.i64.wrap (W[j].maps + 1), W[j].dirty, W[j].data⟩).map Pp.row)), ⟨hp.s7 (by rw [List.length_set]; exact hW), by rw [List.length_set]; exact hXl⟩, ?_⟩
              dsimp only
              rw [List.map_set, ← List.set_append_left _ _ hi]
              exact Ent.env (by simp [okLt])
            · rintro X ⟨hp, hXl⟩
              simp [Try.ntmps3, Try.results3, cSl, cp0, cp1, cn0, cn1, cn2, cn3, cn4, cn5, cn6, cn7, cn8, cI, cD, cR, cF, cA, -view, -cold, -cellsOf, -oneA, -allOneA, one_esl, one_osl, one_int, allOne_nil, allOne_cons, okLt, cells_okc]
              exact ⟨_, hp.app _, Ent.env (by simp [okLt])⟩
      · rintro G hp
        have hsG := hsame G hp.b
        simp [Try.ntmps3, Try.results3, cSl, cp0, cp1, cn0, cn1, cn2, cn3, cn4, cn5, cn6, cn7, cn8, cI, cD, cR, cF, cA, -view, -cold, -cellsOf, -oneA, -allOneA, one_esl, one_osl, one_int, allOne_nil, allOne_cons, hsG, hnm]
        simp [view]
  · intro τ hτ
    rw [show chunksOf 10 _ = [[0,1,2,3,4,5,6,7,8,9],[0,1,2,3,4,5,7,6,8,9],[0,1,2,3,4,6,5,7,8,9],[0,1,2,3,4,6,7,5,8,9],[0,1,2,3,4,7,5,6,8,9],[0,1,2,3,4,7,6,5,8,9],[0,1,3,4,6,2,5,7,8,9],[0,1,3,4,6,2,7,5,8,9],[0,1,3,4,6,7,2,5,8,9],[0,1,3,4,7,2,5,6,8,9],[0,1,3,4,7,2,6,5,8,9],[0,1,3,4,7,6,2,5,8,9]] from rfl] at hτ
    simp only [List.mem_cons, List.not_mem_nil, or_false] at hτ
    rcases hτ with rfl | rfl | rfl | rfl | rfl | rfl | rfl | rfl | rfl | rfl | rfl | rfl
    · simp [Try.ntmps3, Try.results3, cSl, cp0, cp1, cn0, cn1, cn2, cn3, cn4, cn5, cn6, cn7, cn8, cI, cD, cR, cF, cA, -view, -cold, -cellsOf, rClk, clkDec, Clk.row, rCa, caDec, Ca.row, rItem, Item.row, itemDec, rPp, rPg, pgDec, Pg.row, u1, u2]
      intro n0 hn
      refine ent_le (th := [3, 4, 5, 6]) ?_ hn
      by_cases hl0 : l = [] <;> by_cases hm0 : m = [] <;> simp [oT, oA, hl0, hm0, lowA, lowC]
    · simp [Try.ntmps3, Try.results3, cSl, cp0, cp1, cn0, cn1, cn2, cn3, cn4, cn5, cn6, cn7, cn8, cI, cD, cR, cF, cA, -view, -cold, -cellsOf, rClk, clkDec, Clk.row, rCa, caDec, Ca.row, rItem, Item.row, itemDec, rPp, rPg, pgDec, Pg.row, u1, u2]
      intro n0 hn
      refine ent_le (th := [3, 4, 6, 5]) ?_ hn
      by_cases hl0 : l = [] <;> by_cases hm0 : m = [] <;> simp [oT, oA, hl0, hm0, lowA, lowC]
    · simp [Try.ntmps3, Try.results3, cSl, cp0, cp1, cn0, cn1, cn2, cn3, cn4, cn5, cn6, cn7, cn8, cI, cD, cR, cF, cA, -view, -cold, -cellsOf, rClk, clkDec, Clk.row, rCa, caDec, Ca.row, rItem, Item.row, itemDec, rPp, rPg, pgDec, Pg.row, u1, u2]
      intro n0 hn
      refine ent_le (th := [3, 5, 4, 6]) ?_ hn
      by_cases hl0 : l = [] <;> by_cases hm0 : m = [] <;> simp [oT, oA, hl0, hm0, lowA, lowC]
    · simp [Try.ntmps3, Try.results3, cSl, cp0, cp1, cn0, cn1, cn2, cn3, cn4, cn5, cn6, cn7, cn8, cI, cD, cR, cF, cA, -view, -cold, -cellsOf, rClk, clkDec, Clk.row, rCa, caDec, Ca.row, rItem, Item.row, itemDec, rPp, rPg, pgDec, Pg.row, u1, u2]
      intro n0 hn
      refine ent_le (th := [3, 6, 4, 5]) ?_ hn
      by_cases hl0 : l = [] <;> by_cases hm0 : m = [] <;> simp [oT, oA, hl0, hm0, lowA, lowC]
    · simp [Try.ntmps3, Try.results3, cSl, cp0, cp1, cn0, cn1, cn2, cn3, cn4, cn5, cn6, cn7, cn8, cI, cD, cR, cF, cA, -view, -cold, -cellsOf, rClk, clkDec, Clk.row, rCa, caDec, Ca.row, rItem, Item.row, itemDec, rPp, rPg, pgDec, Pg.row, u1, u2]
      intro n0 hn
      refine ent_le (th := [3, 5, 6, 4]) ?_ hn
      by_cases hl0 : l = [] <;> by_cases hm0 : m = [] <;> simp [oT, oA, hl0, hm0, lowA, lowC]
    · simp [Try.ntmps3, Try.results3, cSl, cp0, cp1, cn0, cn1, cn2, cn3, cn4, cn5, cn6, cn7, cn8, cI, cD, cR, cF, cA, -view, -cold, -cellsOf, rClk, clkDec, Clk.row, rCa, caDec, Ca.row, rItem, Item.row, itemDec, rPp, rPg, pgDec, Pg.row, u1, u2]
      intro n0 hn
      refine ent_le (th := [3, 6, 5, 4]) ?_ hn
      by_cases hl0 : l = [] <;> by_cases hm0 : m = [] <;> simp [oT, oA, hl0, hm0, lowA, lowC]
    · simp [Try.ntmps3, Try.results3, cSl, cp0, cp1, cn0, cn1, cn2, cn3, cn4, cn5, cn6, cn7, cn8, cI, cD, cR, cF, cA, -view, -cold, -cellsOf, rClk, clkDec, Clk.row, rCa, caDec, Ca.row, rItem, Item.row, itemDec, rPp, rPg, pgDec, Pg.row, u1, u2]
      intro n0 hn
      refine ent_le (th := [4, 5, 3, 6]) ?_ hn
      by_cases hl0 : l = [] <;> by_cases hm0 : m = [] <;> simp [oT, oA, hl0, hm0, lowA, lowC]
    · simp [Try.ntmps3, Try.results3, cSl, cp0, cp1, cn0, cn1, cn2, cn3, cn4, cn5, cn6, cn7, cn8, cI, cD, cR, cF, cA, -view, -cold, -cellsOf, rClk, clkDec, Clk.row, rCa, caDec, Ca.row, rItem, Item.row, itemDec, rPp, rPg, pgDec, Pg.row, u1, u2]
      intro n0 hn
      refine ent_le (th := [4, 6, 3, 5]) ?_ hn
      by_cases hl0 : l = [] <;> by_cases hm0 : m = [] <;> simp [oT, oA, hl0, hm0, lowA, lowC]
    · simp [Try.ntmps3, Try.results3, cSl, cp0, cp1, cn0, cn1, cn2, cn3, cn4, cn5, cn6, cn7, cn8, cI, cD, cR, cF, cA, -view, -cold, -cellsOf, rClk, clkDec, Clk.row, rCa, caDec, Ca.row, rItem, Item.row, itemDec, rPp, rPg, pgDec, Pg.row, u1, u2]
      intro n0 hn
      refine ent_le (th := [5, 6, 3, 4]) ?_ hn
      by_cases hl0 : l = [] <;> by_cases hm0 : m = [] <;> simp [oT, oA, hl0, hm0, lowA, lowC]
    · simp [Try.ntmps3, Try.results3, cSl, cp0, cp1, cn0, cn1, cn2, cn3, cn4, cn5, cn6, cn7, cn8, cI, cD, cR, cF, cA, -view, -cold, -cellsOf, rClk, clkDec, Clk.row, rCa, caDec, Ca.row, rItem, Item.row, itemDec, rPp, rPg, pgDec, Pg.row, u1, u2]
      intro n0 hn
      refine ent_le (th := [4, 5, 6, 3]) ?_ hn
      by_cases hl0 : l = [] <;> by_cases hm0 : m = [] <;> simp [oT, oA, hl0, hm0, lowA, lowC]
    · simp [Try.ntmps3, Try.results3, cSl, cp0, cp1, cn0, cn1, cn2, cn3, cn4, cn5, cn6, cn7, cn8, cI, cD, cR, cF, cA, -view, -cold, -cellsOf, rClk, clkDec, Clk.row, rCa, caDec, Ca.row, rItem, Item.row, itemDec, rPp, rPg, pgDec, Pg.row, u1, u2]
      intro n0 hn
      refine ent_le (th := [4, 6, 5, 3]) ?_ hn
      by_cases hl0 : l = [] <;> by_cases hm0 : m = [] <;> simp [oT, oA, hl0, hm0, lowA, lowC]
    · simp [Try.ntmps3, Try.results3, cSl, cp0, cp1, cn0, cn1, cn2, cn3, cn4, cn5, cn6, cn7, cn8, cI, cD, cR, cF, cA, -view, -cold, -cellsOf, rClk, clkDec, Clk.row, rCa, caDec, Ca.row, rItem, Item.row, itemDec, rPp, rPg, pgDec, Pg.row, u1, u2]
      intro n0 hn
      refine ent_le (th := [5, 6, 4, 3]) ?_ hn
      by_cases hl0 : l = [] <;> by_cases hm0 : m = [] <;> simp [oT, oA, hl0, hm0, lowA, lowC]
end
end
end Go.Proofs.Ytebpjfdbjhodiaa
