/- Own results in one form, whatever came out. The same under other names, wherever the call began. -/
import Derived.Test.YtebpjfdbjhodiaaFacts
import Derived.Test.YtebpjfdbjhodiaaAiZf
namespace Go.Proofs.Ytebpjfdbjhodiaa
open Go.AI
set_option maxHeartbeats 2000000
set_option maxRecDepth 100000
set_option linter.unusedSimpArgs false
set_option linter.unusedVariables false
attribute [local simp] wpA wpX RunA RunD runF foot footP footB idsA bare apart runL step1 gsel_f gsel_t gsel_s res_same res_and1 res_and2 res_and3 res_and4 res_and5 res_and6 res_false res_true res_v res_ptr res_fptr res_osl res_xsl soft aAppendZ aCap ovlI ovlJ res_fsl res_esl res_agg res_tup res_fn res_junk res_anyb aPick hk imp_left iteV dstOk guardOk astep astepE AI.ev AI.look AI.put envOf aBox cellsOf allOne allOneA oneA Value.oneCell' Value.cells newObj' aFieldAddr aLoad obj readAt thenA blockA condA retA resA tupA view hot hotC hotR depthV cAgg cInt cBool mkAgg allV aAlloc aBuild fillA writeAt aStore isAggA aField idx aIndexAddr aIndex bnd aSlice aExtract aLen aBuiltin aCall isStatic eqAgg eqTy eqC ev_add ev_sub ev_mul ev_quo ev_rem ev_and ev_or ev_xor ev_andNot ev_shl ev_shr ev_eql ev_neq ev_lss ev_leq ev_gtr ev_geq ev_agg w64 wu32 wu8 ev_not ev_neg Cod.plain RCod.plain argM finM cold coldC coldR goInt intDec boolDec aggDec Weaker heapW lowA lowC Again slDec undef aBuildSlice setRows aAppend rowsOf aMakeSlice aClear aCopy softer_self softer_nil valsOf ev_min2 ev_max2 hotR_set hotR_append take_map_set irow_cold irow_mapM irow_mapMc irow_view irow_viewc irow_hotR irow_ren irow_renc irow_low WeakT heapT thOf ren renC AgainT NextF NextT fnDec cFn rNil selfLt natLt0 natLt1 getLastMap frame0 frame1 own0 own1 argG finG tau tauI tauO tauC bareA bareC bareH irow_tau irow_tauc irow_bare irow_flat irow_bareR ownA_nil ownT_nil ownA_c ownT_c ownA_s ownT_s takeMapLen footC plainA noId noIdC cloneF frame0F frame1F insertF replaceI replaceF cellDec rCell fpDec cFp rTwo deleteF allV_oA oneA_oA res_oA RunR RunE runFT footAt hotR_cat tmodN aEqH aSliceA fxSz2 fxBy2 fxAg2 fxZe2 fxSl2 fxAr2 fxPl2 fxSz3 fxBy3 fxAg3 fxZe3 fxSl3 fxAr3 fxPl3 fxSz4 fxBy4 fxAg4 fxZe4 fxSl4 fxAr4 fxPl4 fxSz5 fxBy5 fxAg5 fxZe5 fxSl5 fxAr5 fxPl5 fxSz9 fxBy9 fxAg9 fxZe9 fxSl9 fxAr9 fxPl9 fxSz12 fxBy12 fxAg12 fxZe12 fxSl12 fxAr12 fxPl12 fxSz13 fxBy13 fxAg13 fxZe13 fxSl13 fxAr13 fxFi13x0 fxFi13x1 fxPl13 fxSz21 fxBy21 fxAg21 fxZe21 fxSl21 fxAr21 fxPl21 fxSz22 fxBy22 fxAg22 fxZe22 fxSl22 fxAr22 fxPl22 fxSz23 fxBy23 fxAg23 fxZe23 fxSl23 fxAr23 fxFi23x0 fxFi23x1 fxPl23 fxSz24 fxBy24 fxAg24 fxZe24 fxSl24 fxAr24 fxFi24x0 fxFi24x1 fxPl24 fxSz25 fxBy25 fxAg25 fxZe25 fxSl25 fxAr25 fxFi25x0 fxFi25x1 fxFi25x2 fxPl25 fxSz26 fxBy26 fxAg26 fxZe26 fxSl26 fxAr26 fxFi26x0 fxFi26x1 fxFi26x2 fxPl26 fxSz27 fxBy27 fxAg27 fxZe27 fxSl27 fxAr27 fxPl27 fxSz28 fxBy28 fxAg28 fxZe28 fxSl28 fxAr28 fxFi28x0 fxFi28x1 fxPl28 fxSz29 fxBy29 fxAg29 fxZe29 fxSl29 fxAr29 fxFi29x0 fxFi29x1 fxPl29 fxSz33 fxBy33 fxAg33 fxZe33 fxSl33 fxAr33 fxPl33 fxSz34 fxBy34 fxAg34 fxZe34 fxSl34 fxAr34 fxFi34x0 fxFi34x1 fxFi34x2 fxFi34x3 fxFi34x4 fxPl34 fxSz35 fxBy35 fxAg35 fxZe35 fxSl35 fxAr35 fxFi35x0 fxFi35x1 fxFi35x2 fxFi35x3 fxFi35x4 fxPl35 fxSz38 fxBy38 fxAg38 fxZe38 fxSl38 fxAr38 fxPl38 fxSz50 fxBy50 fxAg50 fxZe50 fxSl50 fxAr50 fxPl50 fxSz51 fxBy51 fxAg51 fxZe51 fxSl51 fxAr51 fxPl51 fxSz53 fxBy53 fxAg53 fxZe53 fxSl53 fxAr53 fxPl53 fxSz54 fxBy54 fxAg54 fxZe54 fxSl54 fxAr54 fxFi54x0 fxFi54x1 fxPl54 fxSz55 fxBy55 fxAg55 fxZe55 fxSl55 fxAr55 fxFi55x0 fxFi55x1 fxPl55 fxSz56 fxBy56 fxAg56 fxZe56 fxSl56 fxAr56 fxPl56 fxSz57 fxBy57 fxAg57 fxZe57 fxSl57 fxAr57 fxPl57 fxSz58 fxBy58 fxAg58 fxZe58 fxSl58 fxAr58 fxFi58x0 fxFi58x1 fxFi58x2 fxFi58x3 fxFi58x4 fxFi58x5 fxFi58x6 fxPl58 fxSz59 fxBy59 fxAg59 fxZe59 fxSl59 fxAr59 fxFi59x0 fxFi59x1 fxFi59x2 fxFi59x3 fxFi59x4 fxFi59x5 fxFi59x6 fxPl59 fxSz60 fxBy60 fxAg60 fxZe60 fxSl60 fxAr60 fxPl60 fxSz61 fxBy61 fxAg61 fxZe61 fxSl61 fxAr61 fxFi61x0 fxFi61x1 fxPl61 fxSz62 fxBy62 fxAg62 fxZe62 fxSl62 fxAr62 fxFi62x0 fxFi62x1 fxPl62 fxSz63 fxBy63 fxAg63 fxZe63 fxSl63 fxAr63 fxPl63 fxSz64 fxBy64 fxAg64 fxZe64 fxSl64 fxAr64 fxFi64x0 fxFi64x1 fxFi64x2 fxPl64 fxSz65 fxBy65 fxAg65 fxZe65 fxSl65 fxAr65 fxFi65x0 fxFi65x1 fxFi65x2 fxPl65 fxSz66 fxBy66 fxAg66 fxZe66 fxSl66 fxAr66 fxPl66 fxSz68 fxBy68 fxAg68 fxZe68 fxSl68 fxAr68 fxPl68 fxSz69 fxBy69 fxAg69 fxZe69 fxSl69 fxAr69 fxPl69 fxSz70 fxBy70 fxAg70 fxZe70 fxSl70 fxAr70 fxPl70 fxSz71 fxBy71 fxAg71 fxZe71 fxSl71 fxAr71 fxFi71x0 fxFi71x1 fxPl71 fxSz72 fxBy72 fxAg72 fxZe72 fxSl72 fxAr72 fxFi72x0 fxFi72x1 fxPl72 fxSz74 fxBy74 fxAg74 fxZe74 fxSl74 fxAr74 fxPl74 fxSz75 fxBy75 fxAg75 fxZe75 fxSl75 fxAr75 fxFi75x0 fxFi75x1 fxFi75x2 fxPl75 fxSz76 fxBy76 fxAg76 fxZe76 fxSl76 fxAr76 fxFi76x0 fxFi76x1 fxFi76x2 fxPl76 fxSz92 fxBy92 fxAg92 fxZe92 fxSl92 fxAr92 fxPl92 fxSz93 fxBy93 fxAg93 fxZe93 fxSl93 fxAr93 fxPl93 fxSz94 fxBy94 fxAg94 fxZe94 fxSl94 fxAr94 fxPl94 fxSz96 fxBy96 fxAg96 fxZe96 fxSl96 fxAr96 fxPl96 fxSz97 fxBy97 fxAg97 fxZe97 fxSl97 fxAr97 fxPl97 fxSz98 fxBy98 fxAg98 fxZe98 fxSl98 fxAr98 fxFi98x0 fxFi98x1 fxPl98 fxSz99 fxBy99 fxAg99 fxZe99 fxSl99 fxAr99 fxFi99x0 fxFi99x1 fxPl99 fxSz100 fxBy100 fxAg100 fxZe100 fxSl100 fxAr100 fxPl100 fxSz101 fxBy101 fxAg101 fxZe101 fxSl101 fxAr101 fxFi101x0 fxFi101x1 fxPl101 fxSz102 fxBy102 fxAg102 fxZe102 fxSl102 fxAr102 fxFi102x0 fxFi102x1 fxPl102 fxSz103 fxBy103 fxAg103 fxZe103 fxSl103 fxAr103 fxFi103x0 fxFi103x1 fxPl103 fxSz104 fxBy104 fxAg104 fxZe104 fxSl104 fxAr104 fxFi104x0 fxFi104x1 fxPl104 fxSz106 fxBy106 fxAg106 fxZe106 fxSl106 fxAr106 fxFi106x0 fxFi106x1 fxFi106x2 fxPl106 fxSz107 fxBy107 fxAg107 fxZe107 fxSl107 fxAr107 fxFi107x0 fxFi107x1 fxFi107x2 fxPl107 fxSz109 fxBy109 fxAg109 fxZe109 fxSl109 fxAr109 fxFi109x0 fxFi109x1 fxPl109 fxSz110 fxBy110 fxAg110 fxZe110 fxSl110 fxAr110 fxFi110x0 fxFi110x1 fxPl110 fxSz111 fxBy111 fxAg111 fxZe111 fxSl111 fxAr111 fxPl111 fxSz112 fxBy112 fxAg112 fxZe112 fxSl112 fxAr112 fxPl112 fxSz113 fxBy113 fxAg113 fxZe113 fxSl113 fxAr113 fxFi113x0 fxFi113x1 fxPl113 fxSz114 fxBy114 fxAg114 fxZe114 fxSl114 fxAr114 fxFi114x0 fxFi114x1 fxPl114 fxSz131 fxBy131 fxAg131 fxZe131 fxSl131 fxAr131 fxPl131 fxSz132 fxBy132 fxAg132 fxZe132 fxSl132 fxAr132 fxPl132 fxSz133 fxBy133 fxAg133 fxZe133 fxSl133 fxAr133 fxPl133 fxSz135 fxBy135 fxAg135 fxZe135 fxSl135 fxAr135 fxPl135 fxSz136 fxBy136 fxAg136 fxZe136 fxSl136 fxAr136 fxFi136x0 fxFi136x1 fxFi136x2 fxPl136 fxSz137 fxBy137 fxAg137 fxZe137 fxSl137 fxAr137 fxFi137x0 fxFi137x1 fxFi137x2 fxPl137 fxSz138 fxBy138 fxAg138 fxZe138 fxSl138 fxAr138 fxPl138 fxSz139 fxBy139 fxAg139 fxZe139 fxSl139 fxAr139 fxFi139x0 fxFi139x1 fxPl139 fxSz140 fxBy140 fxAg140 fxZe140 fxSl140 fxAr140 fxFi140x0 fxFi140x1 fxPl140 fxSz141 fxBy141 fxAg141 fxZe141 fxSl141 fxAr141 fxPl141 fxSz145 fxBy145 fxAg145 fxZe145 fxSl145 fxAr145 fxFi145x0 fxFi145x1 fxPl145 fxSz146 fxBy146 fxAg146 fxZe146 fxSl146 fxAr146 fxFi146x0 fxFi146x1 fxPl146 fxSz165 fxBy165 fxAg165 fxZe165 fxSl165 fxAr165 fxPl165 fxSz166 fxBy166 fxAg166 fxZe166 fxSl166 fxAr166 fxPl166 fxSz167 fxBy167 fxAg167 fxZe167 fxSl167 fxAr167 fxPl167 fxSz169 fxBy169 fxAg169 fxZe169 fxSl169 fxAr169 fxPl169 fxSz170 fxBy170 fxAg170 fxZe170 fxSl170 fxAr170 fxPl170 fxSz171 fxBy171 fxAg171 fxZe171 fxSl171 fxAr171 fxPl171 fxSz183 fxBy183 fxAg183 fxZe183 fxSl183 fxAr183 fxPl183 fxSz208 fxBy208 fxAg208 fxZe208 fxSl208 fxAr208 fxPl208 fxSz262 fxBy262 fxAg262 fxZe262 fxSl262 fxAr262 fxPl262 fxSz283 fxBy283 fxAg283 fxZe283 fxSl283 fxAr283 fxPl283 fxSz294 fxBy294 fxAg294 fxZe294 fxSl294 fxAr294 fxPl294 fxSz295 fxBy295 fxAg295 fxZe295 fxSl295 fxAr295 fxPl295 fxSz296 fxBy296 fxAg296 fxZe296 fxSl296 fxAr296 fxPl296 fxSz299 fxBy299 fxAg299 fxZe299 fxSl299 fxAr299 fxPl299 fxSz307 fxBy307 fxAg307 fxZe307 fxSl307 fxAr307 fxPl307 fxSz308 fxBy308 fxAg308 fxZe308 fxSl308 fxAr308 fxPl308 fxSz316 fxBy316 fxAg316 fxZe316 fxSl316 fxAr316 fxPl316 fxSz320 fxBy320 fxAg320 fxZe320 fxSl320 fxAr320 fxPl320 fxSz324 fxBy324 fxAg324 fxZe324 fxSl324 fxAr324 fxPl324 fxSz330 fxBy330 fxAg330 fxZe330 fxSl330 fxAr330 fxPl330 fxSz331 fxBy331 fxAg331 fxZe331 fxSl331 fxAr331 fxFi331x0 fxPl331 fxSz337 fxBy337 fxAg337 fxZe337 fxSl337 fxAr337 fxPl337 fxSz342 fxBy342 fxAg342 fxZe342 fxSl342 fxAr342 fxPl342 fxEq26 fxEq33 fxEq35 fxEq59 fxEq62 fxEq65 fxEq76 fxEq104 fxEq107 fxEq110 fxEq137 fxEq146 fxEq171 fxEq296 fxCv2x2 fxCv2x3 fxCv2x5 fxCv2x12 fxCv2x21 fxCv2x38 fxCv2x74 fxCv2x283 fxCv2x299 fxCv2x307 fxCv2x316 fxCv3x2 fxCv3x3 fxCv3x5 fxCv3x12 fxCv3x21 fxCv3x38 fxCv3x74 fxCv3x283 fxCv3x299 fxCv3x307 fxCv3x316 fxCv5x2 fxCv5x3 fxCv5x5 fxCv5x12 fxCv5x21 fxCv5x38 fxCv5x74 fxCv5x283 fxCv5x299 fxCv5x307 fxCv5x316 fxCv12x2 fxCv12x3 fxCv12x5 fxCv12x12 fxCv12x21 fxCv12x38 fxCv12x74 fxCv12x283 fxCv12x299 fxCv12x307 fxCv12x316 fxCv21x2 fxCv21x3 fxCv21x5 fxCv21x12 fxCv21x21 fxCv21x38 fxCv21x74 fxCv21x283 fxCv21x299 fxCv21x307 fxCv21x316 fxCv38x2 fxCv38x3 fxCv38x5 fxCv38x12 fxCv38x21 fxCv38x38 fxCv38x74 fxCv38x283 fxCv38x299 fxCv38x307 fxCv38x316 fxCv74x2 fxCv74x3 fxCv74x5 fxCv74x12 fxCv74x21 fxCv74x38 fxCv74x74 fxCv74x283 fxCv74x299 fxCv74x307 fxCv74x316 fxCv283x2 fxCv283x3 fxCv283x5 fxCv283x12 fxCv283x21 fxCv283x38 fxCv283x74 fxCv283x283 fxCv283x299 fxCv283x307 fxCv283x316 fxCv299x2 fxCv299x3 fxCv299x5 fxCv299x12 fxCv299x21 fxCv299x38 fxCv299x74 fxCv299x283 fxCv299x299 fxCv299x307 fxCv299x316 fxCv307x2 fxCv307x3 fxCv307x5 fxCv307x12 fxCv307x21 fxCv307x38 fxCv307x74 fxCv307x283 fxCv307x299 fxCv307x307 fxCv307x316 fxCv316x2 fxCv316x3 fxCv316x5 fxCv316x12 fxCv316x21 fxCv316x38 fxCv316x74 fxCv316x283 fxCv316x299 fxCv316x307 fxCv316x316 fxEb4 fxNb4 fxLt9 fxLn22 fxNe22 fxNn22 fxOe22 fxOn22 fxXe22 fxXn22 fxLn27 fxNe27 fxNn27 fxOe27 fxOn27 fxXe27 fxXn27 fxLn53 fxNe53 fxNn53 fxOe53 fxOn53 fxXe53 fxXn53 fxLn60 fxNe60 fxNn60 fxOe60 fxOn60 fxXe60 fxXn60 fxLn63 fxNe63 fxNn63 fxOe63 fxOn63 fxXe63 fxXn63 fxLn66 fxNe66 fxNn66 fxOe66 fxOn66 fxXe66 fxXn66 fxLn68 fxNe68 fxNn68 fxOe68 fxOn68 fxXe68 fxXn68 fxLn69 fxNe69 fxNn69 fxOe69 fxOn69 fxXe69 fxXn69 fxLn70 fxNe70 fxNn70 fxOe70 fxOn70 fxXe70 fxXn70 fxLn96 fxNe96 fxNn96 fxOe96 fxOn96 fxXe96 fxXn96 fxLn97 fxNe97 fxNn97 fxOe97 fxOn97 fxXe97 fxXn97 fxLn100 fxNe100 fxNn100 fxOe100 fxOn100 fxXe100 fxXn100 fxLn111 fxNe111 fxNn111 fxOe111 fxOn111 fxXe111 fxXn111 fxLn112 fxNe112 fxNn112 fxOe112 fxOn112 fxXe112 fxXn112 fxLn135 fxNe135 fxNn135 fxOe135 fxOn135 fxXe135 fxXn135 fxLn138 fxNe138 fxNn138 fxOe138 fxOn138 fxXe138 fxXn138 fxLn141 fxNe141 fxNn141 fxOe141 fxOn141 fxXe141 fxXn141 fxLn169 fxNe169 fxNn169 fxOe169 fxOn169 fxXe169 fxXn169 fxLn170 fxNe170 fxNn170 fxOe170 fxOn170 fxXe170 fxXn170 fxLn308 fxNe308 fxNn308 fxOe308 fxOn308 fxXe308 fxXn308 fxFn3 fxFm3 fxFb3 fxFi3 fxFj3 fxFn4 fxFm4 fxFb4 fxFi4 fxFj4 fxFn5 fxFm5 fxFb5 fxFi5 fxFj5 fxFn6 fxFm6 fxFb6 fxFi6 fxFj6 fxFn7 fxFm7 fxFb7 fxFi7 fxFj7 fxFn8 fxFm8 fxFb8 fxFi8 fxFj8 fxFn9 fxFm9 fxFb9 fxFi9 fxFj9 fxFn10 fxFm10 fxFb10 fxFi10 fxFj10 fxFn11 fxFm11 fxFb11 fxFi11 fxFj11 fxFn12 fxFm12 fxFb12 fxFi12 fxFj12 fxFn13 fxFm13 fxFb13 fxFi13 fxFj13 fxFn14 fxFm14 fxFb14 fxFi14 fxFj14 fxFn15 fxFm15 fxFb15 fxFi15 fxFj15 fxFn16 fxFm16 fxFb16 fxFi16 fxFj16 fxFn17 fxFm17 fxFb17 fxFi17 fxFj17 fxFn18 fxFm18 fxFb18 fxFi18 fxFj18 fxFn19 fxFm19 fxFb19 fxFi19 fxFj19 fxFn20 fxFm20 fxFb20 fxFi20 fxFj20 fxFn21 fxFm21 fxFb21 fxFi21 fxFj21 fxFn22 fxFm22 fxFb22 fxFi22 fxFj22 fxFn23 fxFm23 fxFb23 fxFi23 fxFj23 fxFn24 fxFm24 fxFb24 fxFi24 fxFj24 fxFn25 fxFm25 fxFb25 fxFi25 fxFj25 fxFn26 fxFm26 fxFb26 fxFi26 fxFj26 fxFn27 fxFm27 fxFb27 fxFi27 fxFj27 fxFn28 fxFm28 fxFb28 fxFi28 fxFj28 fxFn29 fxFm29 fxFb29 fxFi29 fxFj29 fxFn30 fxFm30 fxFb30 fxFi30 fxFj30 fxFn31 fxFm31 fxFb31 fxFi31 fxFj31 fxFn32 fxFm32 fxFb32 fxFi32 fxFj32 fxFn33 fxFm33 fxFb33 fxFi33 fxFj33 fxFn34 fxFm34 fxFb34 fxFi34 fxFj34 fxFn35 fxFm35 fxFb35 fxFi35 fxFj35 fxFn36 fxFm36 fxFb36 fxFi36 fxFj36 fxFn37 fxFm37 fxFb37 fxFi37 fxFj37 fxFn38 fxFm38 fxFb38 fxFi38 fxFj38 fxFn39 fxFm39 fxFb39 fxFi39 fxFj39 fxFn40 fxFm40 fxFb40 fxFi40 fxFj40 fxFn41 fxFm41 fxFb41 fxFi41 fxFj41 fxFn42 fxFm42 fxFb42 fxFi42 fxFj42 fxFn43 fxFm43 fxFb43 fxFi43 fxFj43 fxFn44 fxFm44 fxFb44 fxFi44 fxFj44 fxFn45 fxFm45 fxFb45 fxFi45 fxFj45 fxFn46 fxFm46 fxFb46 fxFi46 fxFj46 fxFn47 fxFm47 fxFb47 fxFi47 fxFj47 fxFn48 fxFm48 fxFb48 fxFi48 fxFj48 fxFn49 fxFm49 fxFb49 fxFi49 fxFj49 fxFn50 fxFm50 fxFb50 fxFi50 fxFj50 fxFn51 fxFm51 fxFb51 fxFi51 fxFj51 fxFn52 fxFm52 fxFb52 fxFi52 fxFj52 fxFn53 fxFm53 fxFb53 fxFi53 fxFj53 fxFn54 fxFm54 fxFb54 fxFi54 fxFj54 fxFn55 fxFm55 fxFb55 fxFi55 fxFj55 fxFn56 fxFm56 fxFb56 fxFi56 fxFj56 fxFn57 fxFm57 fxFb57 fxFi57 fxFj57 fxFn58 fxFm58 fxFb58 fxFi58 fxFj58 fxFn59 fxFm59 fxFb59 fxFi59 fxFj59 fxFn60 fxFm60 fxFb60 fxFi60 fxFj60 fxFn61 fxFm61 fxFb61 fxFi61 fxFj61 fxFn62 fxFm62 fxFb62 fxFi62 fxFj62 fxFn63 fxFm63 fxFb63 fxFi63 fxFj63 fxFn64 fxFm64 fxFb64 fxFi64 fxFj64 fxFn65 fxFm65 fxFb65 fxFi65 fxFj65 fxFn66 fxFm66 fxFb66 fxFi66 fxFj66 fxFn67 fxFm67 fxFb67 fxFi67 fxFj67 fxFn68 fxFm68 fxFb68 fxFi68 fxFj68 fxFn69 fxFm69 fxFb69 fxFi69 fxFj69 fxFn70 fxFm70 fxFb70 fxFi70 fxFj70 fxFn71 fxFm71 fxFb71 fxFi71 fxFj71 fxFn72 fxFm72 fxFb72 fxFi72 fxFj72 fxFn73 fxFm73 fxFb73 fxFi73 fxFj73 fxFn74 fxFm74 fxFb74 fxFi74 fxFj74 fxFn75 fxFm75 fxFb75 fxFi75 fxFj75 fxFn76 fxFm76 fxFb76 fxFi76 fxFj76 fxFn77 fxFm77 fxFb77 fxFi77 fxFj77 fxFn78 fxFm78 fxFb78 fxFi78 fxFj78 fxFn79 fxFm79 fxFb79 fxFi79 fxFj79 fxFn80 fxFm80 fxFb80 fxFi80 fxFj80 fxFn81 fxFm81 fxFb81 fxFi81 fxFj81 fxFn82 fxFm82 fxFb82 fxFi82 fxFj82 fxFn83 fxFm83 fxFb83 fxFi83 fxFj83 fxFn84 fxFm84 fxFb84 fxFi84 fxFj84 fxFn85 fxFm85 fxFb85 fxFi85 fxFj85 fxFn86 fxFm86 fxFb86 fxFi86 fxFj86 fxFn87 fxFm87 fxFb87 fxFi87 fxFj87 fxFn88 fxFm88 fxFb88 fxFi88 fxFj88 fxFn89 fxFm89 fxFb89 fxFi89 fxFj89 fxFn90 fxFm90 fxFb90 fxFi90 fxFj90 fxFn91 fxFm91 fxFb91 fxFi91 fxFj91 fxFn92 fxFm92 fxFb92 fxFi92 fxFj92 fxFn93 fxFm93 fxFb93 fxFi93 fxFj93 fxFn94 fxFm94 fxFb94 fxFi94 fxFj94 fxFn95 fxFm95 fxFb95 fxFi95 fxFj95 fxFn96 fxFm96 fxFb96 fxFi96 fxFj96 fxFn97 fxFm97 fxFb97 fxFi97 fxFj97 fxFn98 fxFm98 fxFb98 fxFi98 fxFj98 fxFn99 fxFm99 fxFb99 fxFi99 fxFj99 fxFn100 fxFm100 fxFb100 fxFi100 fxFj100 fxFn101 fxFm101 fxFb101 fxFi101 fxFj101 fxFn102 fxFm102 fxFb102 fxFi102 fxFj102 fxFn103 fxFm103 fxFb103 fxFi103 fxFj103 fxFn104 fxFm104 fxFb104 fxFi104 fxFj104 fxFn105 fxFm105 fxFb105 fxFi105 fxFj105 fxFn106 fxFm106 fxFb106 fxFi106 fxFj106 fxFn107 fxFm107 fxFb107 fxFi107 fxFj107 fxFn108 fxFm108 fxFb108 fxFi108 fxFj108 fxFn109 fxFm109 fxFb109 fxFi109 fxFj109 fxFn110 fxFm110 fxFb110 fxFi110 fxFj110 fxFn111 fxFm111 fxFb111 fxFi111 fxFj111 fxFn112 fxFm112 fxFb112 fxFi112 fxFj112 fxFn113 fxFm113 fxFb113 fxFi113 fxFj113 fxFn114 fxFm114 fxFb114 fxFi114 fxFj114 fxFn115 fxFm115 fxFb115 fxFi115 fxFj115 fxFn116 fxFm116 fxFb116 fxFi116 fxFj116 fxFn117 fxFm117 fxFb117 fxFi117 fxFj117 fxFn118 fxFm118 fxFb118 fxFi118 fxFj118 fxFn119 fxFm119 fxFb119 fxFi119 fxFj119 fxFn120 fxFm120 fxFb120 fxFi120 fxFj120 fxFn121 fxFm121 fxFb121 fxFi121 fxFj121 fxFn122 fxFm122 fxFb122 fxFi122 fxFj122 fxFn123 fxFm123 fxFb123 fxFi123 fxFj123 fxFn124 fxFm124 fxFb124 fxFi124 fxFj124 fxFn125 fxFm125 fxFb125 fxFi125 fxFj125 fxFn126 fxFm126 fxFb126 fxFi126 fxFj126 fxFn127 fxFm127 fxFb127 fxFi127 fxFj127 fxFn128 fxFm128 fxFb128 fxFi128 fxFj128 fxFn129 fxFm129 fxFb129 fxFi129 fxFj129 fxFn130 fxFm130 fxFb130 fxFi130 fxFj130 fxFn131 fxFm131 fxFb131 fxFi131 fxFj131 fxFn132 fxFm132 fxFb132 fxFi132 fxFj132 fxFn133 fxFm133 fxFb133 fxFi133 fxFj133 fxFn134 fxFm134 fxFb134 fxFi134 fxFj134 fxFn135 fxFm135 fxFb135 fxFi135 fxFj135 fxFn136 fxFm136 fxFb136 fxFi136 fxFj136 fxFn137 fxFm137 fxFb137 fxFi137 fxFj137 fxFn138 fxFm138 fxFb138 fxFi138 fxFj138 fxFn139 fxFm139 fxFb139 fxFi139 fxFj139 fxFn140 fxFm140 fxFb140 fxFi140 fxFj140 fxFn141 fxFm141 fxFb141 fxFi141 fxFj141 fxFn142 fxFm142 fxFb142 fxFi142 fxFj142 fxFn143 fxFm143 fxFb143 fxFi143 fxFj143 fxFn144 fxFm144 fxFb144 fxFi144 fxFj144 fxFn145 fxFm145 fxFb145 fxFi145 fxFj145 fxFn146 fxFm146 fxFb146 fxFi146 fxFj146 fxFn147 fxFm147 fxFb147 fxFi147 fxFj147 fxFn148 fxFm148 fxFb148 fxFi148 fxFj148 fxFn149 fxFm149 fxFb149 fxFi149 fxFj149 fxFn150 fxFm150 fxFb150 fxFi150 fxFj150 fxFn151 fxFm151 fxFb151 fxFi151 fxFj151 fxFn152 fxFm152 fxFb152 fxFi152 fxFj152 fxFn153 fxFm153 fxFb153 fxFi153 fxFj153 fxFn154 fxFm154 fxFb154 fxFi154 fxFj154 fxFn155 fxFm155 fxFb155 fxFi155 fxFj155 fxFn156 fxFm156 fxFn157 fxFm157 fxFb157 fxFi157 fxFj157 fxFn158 fxFm158 fxFb158 fxFi158 fxFj158 fxFn159 fxFm159 fxFb159 fxFi159 fxFj159 fxFn160 fxFm160 fxFb160 fxFi160 fxFj160 fxFn161 fxFm161 fxFn162 fxFm162 fxFb162 fxFi162 fxFj162 fxFn163 fxFm163 fxFb163 fxFi163 fxFj163 fxFn164 fxFm164 fxFb164 fxFi164 fxFj164 fxFn165 fxFm165 fxFb165 fxFi165 fxFj165 fxFn166 fxFm166 fxFb166 fxFi166 fxFj166 fxFn167 fxFm167 fxFb167 fxFi167 fxFj167 fxFn168 fxFm168 fxFb168 fxFi168 fxFj168 fxFn169 fxFm169 fxFb169 fxFi169 fxFj169 fxFn170 fxFm170 fxFb170 fxFi170 fxFj170 fxFn171 fxFm171 fxFb171 fxFi171 fxFj171 fxFn172 fxFm172 fxFb172 fxFi172 fxFj172 fxFn173 fxFm173 fxFn174 fxFm174 fxFb174 fxFi174 fxFj174 fxFn175 fxFm175 fxFb175 fxFi175 fxFj175 fxFn176 fxFm176 fxFb176 fxFi176 fxFj176 fxFn177 fxFm177 fxFb177 fxFi177 fxFj177 fxFn178 fxFm178 fxFb178 fxFi178 fxFj178 fxFn179 fxFm179 fxFb179 fxFi179 fxFj179 fxFn180 fxFm180 fxFn181 fxFm181 fxFb181 fxFi181 fxFj181 fxFn182 fxFm182 fxFb182 fxFi182 fxFj182 fxFn183 fxFm183 fxFn184 fxFm184 fxFb184 fxFi184 fxFj184 fxFn185 fxFm185 fxFb185 fxFi185 fxFj185 fxFn186 fxFm186 fxFb186 fxFi186 fxFj186 fxFn187 fxFm187 fxFb187 fxFi187 fxFj187 fxFn188 fxFm188 fxFb188 fxFi188 fxFj188 fxFn189 fxFm189 fxFb189 fxFi189 fxFj189 fxFn190 fxFm190 fxFb190 fxFi190 fxFj190 fxFn191 fxFm191 fxFn192 fxFm192 fxFb192 fxFi192 fxFj192 fxFn193 fxFm193 fxFb193 fxFi193 fxFj193 fxFn194 fxFm194 fxFb194 fxFi194 fxFj194 fxFn195 fxFm195 fxFb195 fxFi195 fxFj195 fxFn196 fxFm196 fxFb196 fxFi196 fxFj196 fxFn197 fxFm197 fxFb197 fxFi197 fxFj197 fxFn198 fxFm198 fxFb198 fxFi198 fxFj198 fxFn199 fxFm199 fxFb199 fxFi199 fxFj199 fxFn200 fxFm200 fxFb200 fxFi200 fxFj200 fxFn201 fxFm201 fxFn202 fxFm202 fxFb202 fxFi202 fxFj202 fxFn203 fxFm203 fxFb203 fxFi203 fxFj203 fxFn204 fxFm204 fxFb204 fxFi204 fxFj204 fxFn205 fxFm205 fxFb205 fxFi205 fxFj205 fxFn206 fxFm206 fxFb206 fxFi206 fxFj206 fxFn207 fxFm207 fxFb207 fxFi207 fxFj207 fxFn208 fxFm208 fxFb208 fxFi208 fxFj208 fxFn209 fxFm209 fxFb209 fxFi209 fxFj209 fxFn210 fxFm210 fxFb210 fxFi210 fxFj210 fxFn211 fxFm211 fxFb211 fxFi211 fxFj211 fxFn212 fxFm212 fxFb212 fxFi212 fxFj212 fxFn213 fxFm213 fxFb213 fxFi213 fxFj213 fxFn214 fxFm214 fxFb214 fxFi214 fxFj214 fxFn215 fxFm215 fxFb215 fxFi215 fxFj215 fxFn216 fxFm216 fxFb216 fxFi216 fxFj216 fxFn217 fxFm217 fxFb217 fxFi217 fxFj217 fxFn218 fxFm218 fxFb218 fxFi218 fxFj218 fxFn219 fxFm219 fxFb219 fxFi219 fxFj219 fxFn220 fxFm220 fxFb220 fxFi220 fxFj220 fxFn221 fxFm221 fxFb221 fxFi221 fxFj221 fxFn222 fxFm222 fxFb222 fxFi222 fxFj222 fxFn223 fxFm223 fxFb223 fxFi223 fxFj223 fxFn224 fxFm224 fxFb224 fxFi224 fxFj224 fxFn225 fxFm225 fxFb225 fxFi225 fxFj225 fxFn226 fxFm226 fxFb226 fxFi226 fxFj226 fxFn227 fxFm227 fxFb227 fxFi227 fxFj227 fxFn228 fxFm228 fxFb228 fxFi228 fxFj228 fxFn229 fxFm229 fxFb229 fxFi229 fxFj229 fxFn230 fxFm230 fxFb230 fxFi230 fxFj230 fxFn231 fxFm231 fxFb231 fxFi231 fxFj231 fxFn232 fxFm232 fxFb232 fxFi232 fxFj232 fxFn233 fxFm233 fxFb233 fxFi233 fxFj233 fxFn234 fxFm234 fxFb234 fxFi234 fxFj234
section
variable {base : Nat} {w0 : World} {β : Nat → Nat} {fz : Nat → Prop} {H : Heap} {w : World} {P : Program}
theorem HSim.none_app (hs : HSim base w0 β fz H w) : HSim base w0 β fz (H ++ [none]) w := by
  have hlt : ∀ {id : Nat} {o : Nat × List Row}, (H ++ [none])[id]? = some (some o) → H[id]? = some (some o) := by
    intro id o h
    by_cases e : id < H.length
    · rwa [List.getElem?_append_left e] at h
    · rw [List.getElem?_append_right (by omega)] at h
      cases hk : id - H.length with
      | zero => rw [hk] at h; cases h
      | succ k => rw [hk] at h; simp at h
  have hl : ∀ {id : Nat}, Live (H ++ [none]) id → Live H id := fun ⟨o, h⟩ => ⟨o, hlt h⟩
  refine ⟨fun id sz rows h => ?_, fun id id' h1 h2 => hs.inj id id' (hl h1) (hl h2), fun id h => hs.own id (hl h), hs.fzlt, hs.below, hs.base⟩
  exact (hs.objs' id sz rows (hlt h)).ext ⟨by simp, fun _ _ => rfl, fun _ h => h, fun _ _ => rfl, Shapes.refl _⟩ rfl
/-- a copy: an object comes, or an empty place -/
def cloneU (sz : Nat) (args : Row) (H : Heap) : Option (AVal × Heap) :=
  match cloneI sz args H with
  | some (.esl, H') => some (.esl, H' ++ [none])
  | x => x
theorem cloneU_ok {f : Nat} {sz : Nat} (h : InlOk P f (cloneI sz)) : InlOk P f (cloneU sz) := by
  intro args H r H' hr base w0 β fz w vals hs ha
  unfold cloneU at hr
  split at hr
  · rename_i H2 hc
    cases hr
    intro fn hf
    obtain ⟨g1, g2⟩ := h args H _ _ hc base w0 β fz w vals hs ha fn hf
    have key : ∀ e w', (∃ v β' fz', e = Ending.returned v ∧ HSim base w0 β' fz' H2 w' ∧ Ext H.length β fz w H2.length β' fz' w' ∧ R β' (okOf base fz') w' H2.length .esl v) →
        ∃ v β' fz', e = Ending.returned v ∧ HSim base w0 β' fz' (H2 ++ [none]) w' ∧ Ext H.length β fz w (H2 ++ [none]).length β' fz' w' ∧ R β' (okOf base fz') w' (H2 ++ [none]).length .esl v := by
      rintro e w' ⟨v, β', fz', e1, e2, e3, e4⟩
      have e5 : Ext H2.length β' fz' w' (H2 ++ [none]).length β' fz' w' := ⟨by simp, fun _ _ => rfl, fun _ h => h, fun _ _ => rfl, Shapes.refl _⟩
      exact ⟨v, β', fz', e1, HSim.none_app e2, e3.trans e5, e4.ext e5⟩
    exact ⟨fun hb => (g1 hb).mono key, fun hb => by obtain ⟨v, w', k1, k2⟩ := g2 hb; exact ⟨v, w', k1, key _ _ k2⟩⟩
  · exact h args H r H' hr base w0 β fz w vals hs ha
end
theorem cloneU_fsl {o : Bool} {sz : Nat} {rows : List Row} {H : Heap} (h0 : 0 < sz) (hl : rows.length ≤ 4294967296) : cloneU sz [.fsl o sz rows] H = some (oA H.length sz rows.length, H ++ [oT sz rows]) := by
  unfold cloneU
  by_cases h : rows = []
  · subst h; simp [cloneI, oA, oT]
  · have h2 : ¬ sz = 0 := by omega
    simp [cloneI, oA, oT, h, hl, newObj', h2]
theorem cloneU_loc {sz : Nat} : ∀ args ids, cloneF args = some ids → AI.Loc (cloneU sz args) ids true := by
  intro args ids h
  obtain ⟨Φ, hw, hF⟩ := clone_loc (sz := sz) args ids h
  refine ⟨fun f n => (Φ f n).map fun r => match r with | (.esl, u, l) => (.esl, u, l ++ [none]) | x => x, ⟨fun f g n h => by simp only [hw.same f g n h], fun f n r hr => ?_, fun h => by cases h⟩, fun H => ?_⟩
  · simp only [Option.map_eq_some_iff] at hr
    obtain ⟨⟨a, u, l⟩, h1, rfl⟩ := hr
    have := hw.keys f n _ h1
    refine ⟨?_, fun h => by cases h⟩
    split
    · rename_i e; cases e; exact this.1
    · exact this.1
  · unfold cloneU
    rw [hF H]
    cases hq : Φ (obj H) H.length with
    | none => simp only [hq, Option.map_none]
    | some r =>
      obtain ⟨a, u, l⟩ := r
      cases a <;> simp [hq]
section
variable {P : Program} {f : FuncId} {fn : Func} {code : Code}
theorem ownE_2 {α1 α2 : Type} {c1 : Cod α1} {c2 : Cod α2} (hf : P.funcs[f]? = some fn) (hb : fn.body = some code) {g : α1 → α2 → Option (AVal × Heap)} (h : ∀ e1 e2 r H', g e1 e2 = some (r, H') → BodyE P fn code [c1.enc e1, c2.enc e2] [] r H') : InlOk P f (own0 (argG c1 fun e1 => argG c2 fun e2 => finG (g e1 e2))) := by
  refine inl_canonE hf hb fun args H r H' hr => ?_
  cases H with
  | cons o H => simp [own0] at hr
  | nil =>
    simp only [own0] at hr
    obtain ⟨x1, e1, rest1, rfl, hd1, hr⟩ := argG_some hr
    obtain ⟨x2, e2, rest2, rfl, hd2, hr⟩ := argG_some hr
    obtain ⟨rfl, hr⟩ := finG_some hr
    exact ⟨_, (.cons c1 hd1 (.cons c2 hd2 .nil)), h e1 e2 r H' hr⟩
theorem ownE_3 {α1 α2 α3 : Type} {c1 : Cod α1} {c2 : Cod α2} {c3 : Cod α3} (hf : P.funcs[f]? = some fn) (hb : fn.body = some code) {g : α1 → α2 → α3 → Option (AVal × Heap)} (h : ∀ e1 e2 e3 r H', g e1 e2 e3 = some (r, H') → BodyE P fn code [c1.enc e1, c2.enc e2, c3.enc e3] [] r H') : InlOk P f (own0 (argG c1 fun e1 => argG c2 fun e2 => argG c3 fun e3 => finG (g e1 e2 e3))) := by
  refine inl_canonE hf hb fun args H r H' hr => ?_
  cases H with
  | cons o H => simp [own0] at hr
  | nil =>
    simp only [own0] at hr
    obtain ⟨x1, e1, rest1, rfl, hd1, hr⟩ := argG_some hr
    obtain ⟨x2, e2, rest2, rfl, hd2, hr⟩ := argG_some hr
    obtain ⟨x3, e3, rest3, rfl, hd3, hr⟩ := argG_some hr
    obtain ⟨rfl, hr⟩ := finG_some hr
    exact ⟨_, (.cons c1 hd1 (.cons c2 hd2 (.cons c3 hd3 .nil))), h e1 e2 e3 r H' hr⟩
theorem ownE_4 {α1 α2 α3 α4 : Type} {c1 : Cod α1} {c2 : Cod α2} {c3 : Cod α3} {c4 : Cod α4} (hf : P.funcs[f]? = some fn) (hb : fn.body = some code) {g : α1 → α2 → α3 → α4 → Option (AVal × Heap)} (h : ∀ e1 e2 e3 e4 r H', g e1 e2 e3 e4 = some (r, H') → BodyE P fn code [c1.enc e1, c2.enc e2, c3.enc e3, c4.enc e4] [] r H') : InlOk P f (own0 (argG c1 fun e1 => argG c2 fun e2 => argG c3 fun e3 => argG c4 fun e4 => finG (g e1 e2 e3 e4))) := by
  refine inl_canonE hf hb fun args H r H' hr => ?_
  cases H with
  | cons o H => simp [own0] at hr
  | nil =>
    simp only [own0] at hr
    obtain ⟨x1, e1, rest1, rfl, hd1, hr⟩ := argG_some hr
    obtain ⟨x2, e2, rest2, rfl, hd2, hr⟩ := argG_some hr
    obtain ⟨x3, e3, rest3, rfl, hd3, hr⟩ := argG_some hr
    obtain ⟨x4, e4, rest4, rfl, hd4, hr⟩ := argG_some hr
    obtain ⟨rfl, hr⟩ := finG_some hr
    exact ⟨_, (.cons c1 hd1 (.cons c2 hd2 (.cons c3 hd3 (.cons c4 hd4 .nil)))), h e1 e2 e3 e4 r H' hr⟩
theorem ownE_5 {α1 α2 α3 α4 α5 : Type} {c1 : Cod α1} {c2 : Cod α2} {c3 : Cod α3} {c4 : Cod α4} {c5 : Cod α5} (hf : P.funcs[f]? = some fn) (hb : fn.body = some code) {g : α1 → α2 → α3 → α4 → α5 → Option (AVal × Heap)} (h : ∀ e1 e2 e3 e4 e5 r H', g e1 e2 e3 e4 e5 = some (r, H') → BodyE P fn code [c1.enc e1, c2.enc e2, c3.enc e3, c4.enc e4, c5.enc e5] [] r H') : InlOk P f (own0 (argG c1 fun e1 => argG c2 fun e2 => argG c3 fun e3 => argG c4 fun e4 => argG c5 fun e5 => finG (g e1 e2 e3 e4 e5))) := by
  refine inl_canonE hf hb fun args H r H' hr => ?_
  cases H with
  | cons o H => simp [own0] at hr
  | nil =>
    simp only [own0] at hr
    obtain ⟨x1, e1, rest1, rfl, hd1, hr⟩ := argG_some hr
    obtain ⟨x2, e2, rest2, rfl, hd2, hr⟩ := argG_some hr
    obtain ⟨x3, e3, rest3, rfl, hd3, hr⟩ := argG_some hr
    obtain ⟨x4, e4, rest4, rfl, hd4, hr⟩ := argG_some hr
    obtain ⟨x5, e5, rest5, rfl, hd5, hr⟩ := argG_some hr
    obtain ⟨rfl, hr⟩ := finG_some hr
    exact ⟨_, (.cons c1 hd1 (.cons c2 hd2 (.cons c3 hd3 (.cons c4 hd4 (.cons c5 hd5 .nil))))), h e1 e2 e3 e4 e5 r H' hr⟩
end
/-- a list of one's own, if all went well -/
def okL (ok : Bool) (id sz n : Nat) : AVal := if ok = true then .osl id sz 0 n n else .esl
def okO (ok : Bool) (sz : Nat) (rows : List Row) : Option (Nat × List Row) := if ok = true then some (sz, rows) else none
theorem okL_tau {ok : Bool} {m id sz n : Nat} : tau [] m (okL ok id sz n) = okL ok (m + id) sz n := by unfold okL; split <;> simp [tau, tauI]
theorem okL_bare {ok : Bool} {id sz n : Nat} : bareA (okL ok id sz n) = true := by unfold okL; split <;> rfl
theorem okL_allV {ok : Bool} {id sz n : Nat} {r : Row} : allV (okL ok id sz n :: r) = none := by unfold okL; split <;> rfl
theorem okL_one {ok : Bool} {id sz n : Nat} : oneA (okL ok id sz n) = true := by unfold okL; split <;> rfl
theorem okL_res {ok b : Bool} {id sz n : Nat} : res b (okL ok id sz n) = okL ok id sz n := by unfold okL; split <;> rfl
theorem okL_low {ok : Bool} {id sz n m : Nat} (h : id < m) : lowA m (okL ok id sz n) = true := by unfold okL; split <;> simp [lowA, h]
theorem okO_tau {ok : Bool} {m sz : Nat} {α : Type} {l : List α} {g : α → Row} (hg : ∀ e, List.map (tau [] m) (g e) = g e) : tauO [] m (okO ok sz (l.map g)) = okO ok sz (l.map g) := by
  unfold okO
  split
  · simp only [tauO, List.map_map]
    congr 2
    apply List.map_congr_left
    intro e _; exact hg e
  · rfl
theorem okO_bare {ok : Bool} {sz : Nat} {α : Type} {l : List α} {g : α → Row} {r : Heap} (hg : ∀ e, (g e).all bareA = true) : bareH (okO ok sz (l.map g) :: r) = bareH r := by
  unfold okO
  split
  · simp only [bareH]
    have : ((l.map g).all fun row => row.all bareA) = true := by
      rw [List.all_eq_true]; intro x hx
      obtain ⟨e, _, rfl⟩ := List.mem_map.1 hx
      exact hg e
    rw [this]; simp
  · rfl
theorem Lss.vals {vs : List Value} {rs : List AVal} (hl : rs.length = vs.length) (h : ∀ (j : Nat) (v : Value) (r : AVal), vs[j]? = some v → rs[j]? = some r → Lss (.v v) r) : Lss (.v (.tuple vs.toArray)) (.tup rs) ∧ Lss (.v (.agg vs.toArray)) (.agg rs) := by
  have key : ∀ {β : Nat → Nat} {ok : Bool → Nat → Prop} {w : World} {n : Nat}, (∀ o b, ok o b → ok false b) → ∀ (j : Nat) (a : AVal), rs[j]? = some a → R β ok w n a ((vs.toArray)[j]?.getD undef) := by
    intro β ok w n hok j a ha
    have hj : j < vs.length := by rw [← hl]; exact (List.getElem?_eq_some_iff.1 ha).1
    have hv : vs[j]? = some vs[j] := List.getElem?_eq_getElem hj
    have h' : Lss (.v vs[j]) a := h j vs[j] a hv ha
    have this : R β ok w n a vs[j] := h' hok .v
    simpa [hv] using this
  exact ⟨fun hok hr => by rw [hr.v_inv]; exact .tup (by simpa using hl) (key hok), fun hok hr => by rw [hr.v_inv]; exact .agg (by simpa using hl) (key hok)⟩
theorem Lss.nil_esl' : Lss (.v (.slice none 0 0)) .esl := fun _ h => by rw [h.v_inv]; exact .esl
theorem ent_err {r x : AVal} {H : Heap} (h : Lss x r) (hl : lowA 1 r = true) : Ent 0 ([(0, r)], [none]) ([(0, x)], H) := by
  refine Ent.trans (Ent.weak (s' := ([(0, r)], [none])) (s := ([(0, r), (0, x)], H)) ?_) (Ent.slotL (t := 0) (r := r) (by simp only [AI.look, if_true]; exact @h))
  refine ⟨Nat.zero_le _, fun p hp => ?_, ?_⟩
  · simp only [List.mem_singleton] at hp
    subst hp
    exact ⟨rfl, hl⟩
  · cases H with
    | nil => simp [heapW]
    | cons a H => simp [heapW]
end Go.Proofs.Ytebpjfdbjhodiaa
namespace Go.Proofs.Ytebpjfdbjhodiaa
open Go.AI
theorem thOf_le {n0 m : Nat} {th : List Nat} (h : n0 ≤ m) (id : Nat) : thOf n0 (List.range' n0 (m - n0) ++ th) id = thOf m th id := by
  unfold thOf
  by_cases h1 : id < n0
  · rw [if_pos h1, if_pos (by omega)]
  · rw [if_neg h1]
    by_cases h2 : id < m
    · rw [if_pos h2, List.getElem?_append_left (by simp; omega), List.getElem?_range' (by omega)]
      simp; omega
    · rw [if_neg h2, List.getElem?_append_right (by simp; omega)]
      simp only [List.length_range']
      rw [show id - n0 - (m - n0) = id - m by omega]
mutual
theorem ren_le {n0 m : Nat} {th : List Nat} (h : n0 ≤ m) : ∀ a : AVal, ren n0 (List.range' n0 (m - n0) ++ th) a = ren m th a
  | .ptr id sz i off => by simp only [ren, thOf_le h]
  | .osl id sz s len kc => by simp only [ren, thOf_le h]
  | .xsl id sz s len kc => by simp only [ren, thOf_le h]
  | .agg cs => by simp only [ren, renC_le h cs]
  | .tup cs => by simp only [ren, renC_le h cs]
  | .fn f cs => by simp only [ren, renC_le h cs]
  | .when b a => by simp only [ren, ren_le h a]
  | .junk => rfl
  | .anyb => rfl
  | .v _ => rfl
  | .esl => rfl
  | .fsl _ _ _ => rfl
  | .fptr _ _ => rfl
theorem renC_le {n0 m : Nat} {th : List Nat} (h : n0 ≤ m) : ∀ l : List AVal, renC n0 (List.range' n0 (m - n0) ++ th) l = renC m th l
  | [] => rfl
  | a :: l => by simp only [renC, ren_le h a, renC_le h l]
end
theorem heapT_le {n0 m n : Nat} {th : List Nat} {H : Heap} (h : n0 ≤ m) : ∀ {i : Nat} {X : Heap}, heapT m th n H i X → heapT n0 (List.range' n0 (m - n0) ++ th) n H i X
  | _, [], _ => trivial
  | i, none :: r, hx => by
    simp only [heapT] at hx ⊢
    exact heapT_le h hx
  | i, some o :: r, hx => by
    simp only [heapT] at hx ⊢
    refine ⟨?_, hx.2.1, heapT_le h hx.2.2⟩
    rw [thOf_le h, hx.1]
    congr 4
    funext r
    congr 1
    funext a
    exact (ren_le h a).symm
theorem ent_le {m : Nat} {th : List Nat} {s' s : Env × Heap} (h : WeakT m th s' s) {n0 : Nat} (hn : n0 ≤ m) : Ent n0 s' s := by
  obtain ⟨⟨h1, h2⟩, ⟨h3, h4, h5⟩, h6, h7⟩ := h
  refine Ent.weakT (th := List.range' n0 (m - n0) ++ th) ⟨⟨by omega, by omega⟩, ⟨?_, by simp; omega, fun x hx => ?_⟩, fun p hp => ?_, heapT_le hn h7⟩
  · rw [List.nodup_append]
    refine ⟨List.nodup_range', h3, fun a ha b hb => ?_⟩
    have := List.mem_range'_1.1 ha
    have := h5 b hb
    omega
  · rcases List.mem_append.1 hx with hx | hx
    · have := List.mem_range'_1.1 hx
      omega
    · have := h5 x hx
      omega
  · rw [ren_le hn]
    exact h6 p hp
end Go.Proofs.Ytebpjfdbjhodiaa
