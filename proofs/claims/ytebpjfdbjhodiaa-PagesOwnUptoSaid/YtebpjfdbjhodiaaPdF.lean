/- Functions of package pages, whose results are the caller's own. Clocks and caches work; their lists compared. -/
import Derived.Test.YtebpjfdbjhodiaaPdB
import Derived.Test.YtebpjfdbjhodiaaPcC
namespace Go.Proofs.Ytebpjfdbjhodiaa
open Go.AI
set_option linter.unusedSimpArgs false
set_option linter.unusedVariables false
section
set_option maxHeartbeats 2000000
set_option maxRecDepth 100000
set_option linter.unusedSimpArgs false
set_option linter.unusedVariables false
attribute [local simp] wpA wpX RunA RunD runF foot footP footB idsA bare apart runL step1 gsel_f gsel_t gsel_s res_same res_and1 res_and2 res_and3 res_and4 res_and5 res_and6 res_false res_true res_v res_ptr res_fptr res_osl res_xsl soft aAppendZ aCap ovlI ovlJ res_fsl res_esl res_agg res_tup res_fn res_junk res_anyb aPick hk imp_left iteV dstOk guardOk astep astepE AI.ev AI.look AI.put envOf aBox cellsOf allOne allOneA oneA Value.oneCell' Value.cells newObj' aFieldAddr aLoad obj readAt thenA blockA condA retA resA tupA view hot hotC hotR depthV cAgg cInt cBool mkAgg allV aAlloc aBuild fillA writeAt aStore isAggA aField idx aIndexAddr aIndex bnd aSlice aExtract aLen aBuiltin aCall isStatic eqAgg eqTy eqC ev_add ev_sub ev_mul ev_quo ev_rem ev_and ev_or ev_xor ev_andNot ev_shl ev_shr ev_eql ev_neq ev_lss ev_leq ev_gtr ev_geq ev_agg w64 wu32 wu8 ev_not ev_neg Cod.plain RCod.plain argM finM cold coldC coldR goInt intDec boolDec aggDec Weaker heapW lowA lowC Again slDec undef aBuildSlice setRows aAppend rowsOf aMakeSlice aClear aCopy softer_self softer_nil valsOf ev_min2 ev_max2 hotR_set hotR_append take_map_set irow_cold irow_mapM irow_mapMc irow_view irow_viewc irow_hotR irow_ren irow_renc irow_low WeakT heapT thOf ren renC AgainT NextF NextT fnDec cFn rNil selfLt natLt0 natLt1 getLastMap frame0 frame1 own0 own1 argG finG tau tauI tauO tauC bareA bareC bareH irow_tau irow_tauc irow_bare irow_flat irow_bareR ownA_nil ownT_nil ownA_c ownT_c ownA_s ownT_s takeMapLen footC plainA noId noIdC cloneF frame0F frame1F insertF replaceI replaceF cellDec rCell fpDec cFp rTwo deleteF allV_oA oneA_oA res_oA RunR RunE runFT footAt hotR_cat tmodN aEqH aSliceA fxSz2 fxBy2 fxAg2 fxZe2 fxSl2 fxAr2 fxPl2 fxSz3 fxBy3 fxAg3 fxZe3 fxSl3 fxAr3 fxPl3 fxSz4 fxBy4 fxAg4 fxZe4 fxSl4 fxAr4 fxPl4 fxSz5 fxBy5 fxAg5 fxZe5 fxSl5 fxAr5 fxPl5 fxSz9 fxBy9 fxAg9 fxZe9 fxSl9 fxAr9 fxPl9 fxSz12 fxBy12 fxAg12 fxZe12 fxSl12 fxAr12 fxPl12 fxSz13 fxBy13 fxAg13 fxZe13 fxSl13 fxAr13 fxFi13x0 fxFi13x1 fxPl13 fxSz21 fxBy21 fxAg21 fxZe21 fxSl21 fxAr21 fxPl21 fxSz22 fxBy22 fxAg22 fxZe22 fxSl22 fxAr22 fxPl22 fxSz23 fxBy23 fxAg23 fxZe23 fxSl23 fxAr23 fxFi23x0 fxFi23x1 fxPl23 fxSz24 fxBy24 fxAg24 fxZe24 fxSl24 fxAr24 fxFi24x0 fxFi24x1 fxPl24 fxSz25 fxBy25 fxAg25 fxZe25 fxSl25 fxAr25 fxFi25x0 fxFi25x1 fxFi25x2 fxPl25 fxSz26 fxBy26 fxAg26 fxZe26 fxSl26 fxAr26 fxFi26x0 fxFi26x1 fxFi26x2 fxPl26 fxSz27 fxBy27 fxAg27 fxZe27 fxSl27 fxAr27 fxPl27 fxSz28 fxBy28 fxAg28 fxZe28 fxSl28 fxAr28 fxFi28x0 fxFi28x1 fxPl28 fxSz29 fxBy29 fxAg29 fxZe29 fxSl29 fxAr29 fxFi29x0 fxFi29x1 fxPl29 fxSz33 fxBy33 fxAg33 fxZe33 fxSl33 fxAr33 fxPl33 fxSz34 fxBy34 fxAg34 fxZe34 fxSl34 fxAr34 fxFi34x0 fxFi34x1 fxFi34x2 fxFi34x3 fxFi34x4 fxPl34 fxSz35 fxBy35 fxAg35 fxZe35 fxSl35 fxAr35 fxFi35x0 fxFi35x1 fxFi35x2 fxFi35x3 fxFi35x4 fxPl35 fxSz38 fxBy38 fxAg38 fxZe38 fxSl38 fxAr38 fxPl38 fxSz50 fxBy50 fxAg50 fxZe50 fxSl50 fxAr50 fxPl50 fxSz51 fxBy51 fxAg51 fxZe51 fxSl51 fxAr51 fxPl51 fxSz53 fxBy53 fxAg53 fxZe53 fxSl53 fxAr53 fxPl53 fxSz54 fxBy54 fxAg54 fxZe54 fxSl54 fxAr54 fxFi54x0 fxFi54x1 fxPl54 fxSz55 fxBy55 fxAg55 fxZe55 fxSl55 fxAr55 fxFi55x0 fxFi55x1 fxPl55 fxSz56 fxBy56 fxAg56 fxZe56 fxSl56 fxAr56 fxPl56 fxSz57 fxBy57 fxAg57 fxZe57 fxSl57 fxAr57 fxPl57 fxSz58 fxBy58 fxAg58 fxZe58 fxSl58 fxAr58 fxFi58x0 fxFi58x1 fxFi58x2 fxFi58x3 fxFi58x4 fxFi58x5 fxFi58x6 fxPl58 fxSz59 fxBy59 fxAg59 fxZe59 fxSl59 fxAr59 fxFi59x0 fxFi59x1 fxFi59x2 fxFi59x3 fxFi59x4 fxFi59x5 fxFi59x6 fxPl59 fxSz60 fxBy60 fxAg60 fxZe60 fxSl60 fxAr60 fxPl60 fxSz61 fxBy61 fxAg61 fxZe61 fxSl61 fxAr61 fxFi61x0 fxFi61x1 fxPl61 fxSz62 fxBy62 fxAg62 fxZe62 fxSl62 fxAr62 fxFi62x0 fxFi62x1 fxPl62 fxSz63 fxBy63 fxAg63 fxZe63 fxSl63 fxAr63 fxPl63 fxSz64 fxBy64 fxAg64 fxZe64 fxSl64 fxAr64 fxFi64x0 fxFi64x1 fxFi64x2 fxPl64 fxSz65 fxBy65 fxAg65 fxZe65 fxSl65 fxAr65 fxFi65x0 fxFi65x1 fxFi65x2 fxPl65 fxSz66 fxBy66 fxAg66 fxZe66 fxSl66 fxAr66 fxPl66 fxSz68 fxBy68 fxAg68 fxZe68 fxSl68 fxAr68 fxPl68 fxSz69 fxBy69 fxAg69 fxZe69 fxSl69 fxAr69 fxPl69 fxSz70 fxBy70 fxAg70 fxZe70 fxSl70 fxAr70 fxPl70 fxSz71 fxBy71 fxAg71 fxZe71 fxSl71 fxAr71 fxFi71x0 fxFi71x1 fxPl71 fxSz72 fxBy72 fxAg72 fxZe72 fxSl72 fxAr72 fxFi72x0 fxFi72x1 fxPl72 fxSz74 fxBy74 fxAg74 fxZe74 fxSl74 fxAr74 fxPl74 fxSz75 fxBy75 fxAg75 fxZe75 fxSl75 fxAr75 fxFi75x0 fxFi75x1 fxFi75x2 fxPl75 fxSz76 fxBy76 fxAg76 fxZe76 fxSl76 fxAr76 fxFi76x0 fxFi76x1 fxFi76x2 fxPl76 fxSz92 fxBy92 fxAg92 fxZe92 fxSl92 fxAr92 fxPl92 fxSz93 fxBy93 fxAg93 fxZe93 fxSl93 fxAr93 fxPl93 fxSz94 fxBy94 fxAg94 fxZe94 fxSl94 fxAr94 fxPl94 fxSz96 fxBy96 fxAg96 fxZe96 fxSl96 fxAr96 fxPl96 fxSz97 fxBy97 fxAg97 fxZe97 fxSl97 fxAr97 fxPl97 fxSz98 fxBy98 fxAg98 fxZe98 fxSl98 fxAr98 fxFi98x0 fxFi98x1 fxPl98 fxSz99 fxBy99 fxAg99 fxZe99 fxSl99 fxAr99 fxFi99x0 fxFi99x1 fxPl99 fxSz100 fxBy100 fxAg100 fxZe100 fxSl100 fxAr100 fxPl100 fxSz101 fxBy101 fxAg101 fxZe101 fxSl101 fxAr101 fxFi101x0 fxFi101x1 fxPl101 fxSz102 fxBy102 fxAg102 fxZe102 fxSl102 fxAr102 fxFi102x0 fxFi102x1 fxPl102 fxSz103 fxBy103 fxAg103 fxZe103 fxSl103 fxAr103 fxFi103x0 fxFi103x1 fxPl103 fxSz104 fxBy104 fxAg104 fxZe104 fxSl104 fxAr104 fxFi104x0 fxFi104x1 fxPl104 fxSz106 fxBy106 fxAg106 fxZe106 fxSl106 fxAr106 fxFi106x0 fxFi106x1 fxFi106x2 fxPl106 fxSz107 fxBy107 fxAg107 fxZe107 fxSl107 fxAr107 fxFi107x0 fxFi107x1 fxFi107x2 fxPl107 fxSz109 fxBy109 fxAg109 fxZe109 fxSl109 fxAr109 fxFi109x0 fxFi109x1 fxPl109 fxSz110 fxBy110 fxAg110 fxZe110 fxSl110 fxAr110 fxFi110x0 fxFi110x1 fxPl110 fxSz111 fxBy111 fxAg111 fxZe111 fxSl111 fxAr111 fxPl111 fxSz112 fxBy112 fxAg112 fxZe112 fxSl112 fxAr112 fxPl112 fxSz113 fxBy113 fxAg113 fxZe113 fxSl113 fxAr113 fxFi113x0 fxFi113x1 fxPl113 fxSz114 fxBy114 fxAg114 fxZe114 fxSl114 fxAr114 fxFi114x0 fxFi114x1 fxPl114 fxSz131 fxBy131 fxAg131 fxZe131 fxSl131 fxAr131 fxPl131 fxSz132 fxBy132 fxAg132 fxZe132 fxSl132 fxAr132 fxPl132 fxSz133 fxBy133 fxAg133 fxZe133 fxSl133 fxAr133 fxPl133 fxSz135 fxBy135 fxAg135 fxZe135 fxSl135 fxAr135 fxPl135 fxSz136 fxBy136 fxAg136 fxZe136 fxSl136 fxAr136 fxFi136x0 fxFi136x1 fxFi136x2 fxPl136 fxSz137 fxBy137 fxAg137 fxZe137 fxSl137 fxAr137 fxFi137x0 fxFi137x1 fxFi137x2 fxPl137 fxSz138 fxBy138 fxAg138 fxZe138 fxSl138 fxAr138 fxPl138 fxSz139 fxBy139 fxAg139 fxZe139 fxSl139 fxAr139 fxFi139x0 fxFi139x1 fxPl139 fxSz140 fxBy140 fxAg140 fxZe140 fxSl140 fxAr140 fxFi140x0 fxFi140x1 fxPl140 fxSz141 fxBy141 fxAg141 fxZe141 fxSl141 fxAr141 fxPl141 fxSz145 fxBy145 fxAg145 fxZe145 fxSl145 fxAr145 fxFi145x0 fxFi145x1 fxPl145 fxSz146 fxBy146 fxAg146 fxZe146 fxSl146 fxAr146 fxFi146x0 fxFi146x1 fxPl146 fxSz165 fxBy165 fxAg165 fxZe165 fxSl165 fxAr165 fxPl165 fxSz166 fxBy166 fxAg166 fxZe166 fxSl166 fxAr166 fxPl166 fxSz167 fxBy167 fxAg167 fxZe167 fxSl167 fxAr167 fxPl167 fxSz169 fxBy169 fxAg169 fxZe169 fxSl169 fxAr169 fxPl169 fxSz170 fxBy170 fxAg170 fxZe170 fxSl170 fxAr170 fxPl170 fxSz171 fxBy171 fxAg171 fxZe171 fxSl171 fxAr171 fxPl171 fxSz183 fxBy183 fxAg183 fxZe183 fxSl183 fxAr183 fxPl183 fxSz208 fxBy208 fxAg208 fxZe208 fxSl208 fxAr208 fxPl208 fxSz262 fxBy262 fxAg262 fxZe262 fxSl262 fxAr262 fxPl262 fxSz283 fxBy283 fxAg283 fxZe283 fxSl283 fxAr283 fxPl283 fxSz294 fxBy294 fxAg294 fxZe294 fxSl294 fxAr294 fxPl294 fxSz295 fxBy295 fxAg295 fxZe295 fxSl295 fxAr295 fxPl295 fxSz296 fxBy296 fxAg296 fxZe296 fxSl296 fxAr296 fxPl296 fxSz299 fxBy299 fxAg299 fxZe299 fxSl299 fxAr299 fxPl299 fxSz307 fxBy307 fxAg307 fxZe307 fxSl307 fxAr307 fxPl307 fxSz308 fxBy308 fxAg308 fxZe308 fxSl308 fxAr308 fxPl308 fxSz316 fxBy316 fxAg316 fxZe316 fxSl316 fxAr316 fxPl316 fxSz320 fxBy320 fxAg320 fxZe320 fxSl320 fxAr320 fxPl320 fxSz324 fxBy324 fxAg324 fxZe324 fxSl324 fxAr324 fxPl324 fxSz330 fxBy330 fxAg330 fxZe330 fxSl330 fxAr330 fxPl330 fxSz331 fxBy331 fxAg331 fxZe331 fxSl331 fxAr331 fxFi331x0 fxPl331 fxSz337 fxBy337 fxAg337 fxZe337 fxSl337 fxAr337 fxPl337 fxSz342 fxBy342 fxAg342 fxZe342 fxSl342 fxAr342 fxPl342 fxEq26 fxEq33 fxEq35 fxEq59 fxEq62 fxEq65 fxEq76 fxEq104 fxEq107 fxEq110 fxEq137 fxEq146 fxEq171 fxEq296 fxCv2x2 fxCv2x3 fxCv2x5 fxCv2x12 fxCv2x21 fxCv2x38 fxCv2x74 fxCv2x283 fxCv2x299 fxCv2x307 fxCv2x316 fxCv3x2 fxCv3x3 fxCv3x5 fxCv3x12 fxCv3x21 fxCv3x38 fxCv3x74 fxCv3x283 fxCv3x299 fxCv3x307 fxCv3x316 fxCv5x2 fxCv5x3 fxCv5x5 fxCv5x12 fxCv5x21 fxCv5x38 fxCv5x74 fxCv5x283 fxCv5x299 fxCv5x307 fxCv5x316 fxCv12x2 fxCv12x3 fxCv12x5 fxCv12x12 fxCv12x21 fxCv12x38 fxCv12x74 fxCv12x283 fxCv12x299 fxCv12x307 fxCv12x316 fxCv21x2 fxCv21x3 fxCv21x5 fxCv21x12 fxCv21x21 fxCv21x38 fxCv21x74 fxCv21x283 fxCv21x299 fxCv21x307 fxCv21x316 fxCv38x2 fxCv38x3 fxCv38x5 fxCv38x12 fxCv38x21 fxCv38x38 fxCv38x74 fxCv38x283 fxCv38x299 fxCv38x307 fxCv38x316 fxCv74x2 fxCv74x3 fxCv74x5 fxCv74x12 fxCv74x21 fxCv74x38 fxCv74x74 fxCv74x283 fxCv74x299 fxCv74x307 fxCv74x316 fxCv283x2 fxCv283x3 fxCv283x5 fxCv283x12 fxCv283x21 fxCv283x38 fxCv283x74 fxCv283x283 fxCv283x299 fxCv283x307 fxCv283x316 fxCv299x2 fxCv299x3 fxCv299x5 fxCv299x12 fxCv299x21 fxCv299x38 fxCv299x74 fxCv299x283 fxCv299x299 fxCv299x307 fxCv299x316 fxCv307x2 fxCv307x3 fxCv307x5 fxCv307x12 fxCv307x21 fxCv307x38 fxCv307x74 fxCv307x283 fxCv307x299 fxCv307x307 fxCv307x316 fxCv316x2 fxCv316x3 fxCv316x5 fxCv316x12 fxCv316x21 fxCv316x38 fxCv316x74 fxCv316x283 fxCv316x299 fxCv316x307 fxCv316x316 fxEb4 fxNb4 fxLt9 fxLn22 fxNe22 fxNn22 fxOe22 fxOn22 fxXe22 fxXn22 fxLn27 fxNe27 fxNn27 fxOe27 fxOn27 fxXe27 fxXn27 fxLn53 fxNe53 fxNn53 fxOe53 fxOn53 fxXe53 fxXn53 fxLn60 fxNe60 fxNn60 fxOe60 fxOn60 fxXe60 fxXn60 fxLn63 fxNe63 fxNn63 fxOe63 fxOn63 fxXe63 fxXn63 fxLn66 fxNe66 fxNn66 fxOe66 fxOn66 fxXe66 fxXn66 fxLn68 fxNe68 fxNn68 fxOe68 fxOn68 fxXe68 fxXn68 fxLn69 fxNe69 fxNn69 fxOe69 fxOn69 fxXe69 fxXn69 fxLn70 fxNe70 fxNn70 fxOe70 fxOn70 fxXe70 fxXn70 fxLn96 fxNe96 fxNn96 fxOe96 fxOn96 fxXe96 fxXn96 fxLn97 fxNe97 fxNn97 fxOe97 fxOn97 fxXe97 fxXn97 fxLn100 fxNe100 fxNn100 fxOe100 fxOn100 fxXe100 fxXn100 fxLn111 fxNe111 fxNn111 fxOe111 fxOn111 fxXe111 fxXn111 fxLn112 fxNe112 fxNn112 fxOe112 fxOn112 fxXe112 fxXn112 fxLn135 fxNe135 fxNn135 fxOe135 fxOn135 fxXe135 fxXn135 fxLn138 fxNe138 fxNn138 fxOe138 fxOn138 fxXe138 fxXn138 fxLn141 fxNe141 fxNn141 fxOe141 fxOn141 fxXe141 fxXn141 fxLn169 fxNe169 fxNn169 fxOe169 fxOn169 fxXe169 fxXn169 fxLn170 fxNe170 fxNn170 fxOe170 fxOn170 fxXe170 fxXn170 fxLn308 fxNe308 fxNn308 fxOe308 fxOn308 fxXe308 fxXn308 fxFn3 fxFm3 fxFb3 fxFi3 fxFj3 fxFn4 fxFm4 fxFb4 fxFi4 fxFj4 fxFn5 fxFm5 fxFb5 fxFi5 fxFj5 fxFn6 fxFm6 fxFb6 fxFi6 fxFj6 fxFn7 fxFm7 fxFb7 fxFi7 fxFj7 fxFn8 fxFm8 fxFb8 fxFi8 fxFj8 fxFn9 fxFm9 fxFb9 fxFi9 fxFj9 fxFn10 fxFm10 fxFb10 fxFi10 fxFj10 fxFn11 fxFm11 fxFb11 fxFi11 fxFj11 fxFn12 fxFm12 fxFb12 fxFi12 fxFj12 fxFn13 fxFm13 fxFb13 fxFi13 fxFj13 fxFn14 fxFm14 fxFb14 fxFi14 fxFj14 fxFn15 fxFm15 fxFb15 fxFi15 fxFj15 fxFn16 fxFm16 fxFb16 fxFi16 fxFj16 fxFn17 fxFm17 fxFb17 fxFi17 fxFj17 fxFn18 fxFm18 fxFb18 fxFi18 fxFj18 fxFn19 fxFm19 fxFb19 fxFi19 fxFj19 fxFn20 fxFm20 fxFb20 fxFi20 fxFj20 fxFn21 fxFm21 fxFb21 fxFi21 fxFj21 fxFn22 fxFm22 fxFb22 fxFi22 fxFj22 fxFn23 fxFm23 fxFb23 fxFi23 fxFj23 fxFn24 fxFm24 fxFb24 fxFi24 fxFj24 fxFn25 fxFm25 fxFb25 fxFi25 fxFj25 fxFn26 fxFm26 fxFb26 fxFi26 fxFj26 fxFn27 fxFm27 fxFb27 fxFi27 fxFj27 fxFn28 fxFm28 fxFb28 fxFi28 fxFj28 fxFn29 fxFm29 fxFb29 fxFi29 fxFj29 fxFn30 fxFm30 fxFb30 fxFi30 fxFj30 fxFn31 fxFm31 fxFb31 fxFi31 fxFj31 fxFn32 fxFm32 fxFb32 fxFi32 fxFj32 fxFn33 fxFm33 fxFb33 fxFi33 fxFj33 fxFn34 fxFm34 fxFb34 fxFi34 fxFj34 fxFn35 fxFm35 fxFb35 fxFi35 fxFj35 fxFn36 fxFm36 fxFb36 fxFi36 fxFj36 fxFn37 fxFm37 fxFb37 fxFi37 fxFj37 fxFn38 fxFm38 fxFb38 fxFi38 fxFj38 fxFn39 fxFm39 fxFb39 fxFi39 fxFj39 fxFn40 fxFm40 fxFb40 fxFi40 fxFj40 fxFn41 fxFm41 fxFb41 fxFi41 fxFj41 fxFn42 fxFm42 fxFb42 fxFi42 fxFj42 fxFn43 fxFm43 fxFb43 fxFi43 fxFj43 fxFn44 fxFm44 fxFb44 fxFi44 fxFj44 fxFn45 fxFm45 fxFb45 fxFi45 fxFj45 fxFn46 fxFm46 fxFb46 fxFi46 fxFj46 fxFn47 fxFm47 fxFb47 fxFi47 fxFj47 fxFn48 fxFm48 fxFb48 fxFi48 fxFj48 fxFn49 fxFm49 fxFb49 fxFi49 fxFj49 fxFn50 fxFm50 fxFb50 fxFi50 fxFj50 fxFn51 fxFm51 fxFb51 fxFi51 fxFj51 fxFn52 fxFm52 fxFb52 fxFi52 fxFj52 fxFn53 fxFm53 fxFb53 fxFi53 fxFj53 fxFn54 fxFm54 fxFb54 fxFi54 fxFj54 fxFn55 fxFm55 fxFb55 fxFi55 fxFj55 fxFn56 fxFm56 fxFb56 fxFi56 fxFj56 fxFn57 fxFm57 fxFb57 fxFi57 fxFj57 fxFn58 fxFm58 fxFb58 fxFi58 fxFj58 fxFn59 fxFm59 fxFb59 fxFi59 fxFj59 fxFn60 fxFm60 fxFb60 fxFi60 fxFj60 fxFn61 fxFm61 fxFb61 fxFi61 fxFj61 fxFn62 fxFm62 fxFb62 fxFi62 fxFj62 fxFn63 fxFm63 fxFb63 fxFi63 fxFj63 fxFn64 fxFm64 fxFb64 fxFi64 fxFj64 fxFn65 fxFm65 fxFb65 fxFi65 fxFj65 fxFn66 fxFm66 fxFb66 fxFi66 fxFj66 fxFn67 fxFm67 fxFb67 fxFi67 fxFj67 fxFn68 fxFm68 fxFb68 fxFi68 fxFj68 fxFn69 fxFm69 fxFb69 fxFi69 fxFj69 fxFn70 fxFm70 fxFb70 fxFi70 fxFj70 fxFn71 fxFm71 fxFb71 fxFi71 fxFj71 fxFn72 fxFm72 fxFb72 fxFi72 fxFj72 fxFn73 fxFm73 fxFb73 fxFi73 fxFj73 fxFn74 fxFm74 fxFb74 fxFi74 fxFj74 fxFn75 fxFm75 fxFb75 fxFi75 fxFj75 fxFn76 fxFm76 fxFb76 fxFi76 fxFj76 fxFn77 fxFm77 fxFb77 fxFi77 fxFj77 fxFn78 fxFm78 fxFb78 fxFi78 fxFj78 fxFn79 fxFm79 fxFb79 fxFi79 fxFj79 fxFn80 fxFm80 fxFb80 fxFi80 fxFj80 fxFn81 fxFm81 fxFb81 fxFi81 fxFj81 fxFn82 fxFm82 fxFb82 fxFi82 fxFj82 fxFn83 fxFm83 fxFb83 fxFi83 fxFj83 fxFn84 fxFm84 fxFb84 fxFi84 fxFj84 fxFn85 fxFm85 fxFb85 fxFi85 fxFj85 fxFn86 fxFm86 fxFb86 fxFi86 fxFj86 fxFn87 fxFm87 fxFb87 fxFi87 fxFj87 fxFn88 fxFm88 fxFb88 fxFi88 fxFj88 fxFn89 fxFm89 fxFb89 fxFi89 fxFj89 fxFn90 fxFm90 fxFb90 fxFi90 fxFj90 fxFn91 fxFm91 fxFb91 fxFi91 fxFj91 fxFn92 fxFm92 fxFb92 fxFi92 fxFj92 fxFn93 fxFm93 fxFb93 fxFi93 fxFj93 fxFn94 fxFm94 fxFb94 fxFi94 fxFj94 fxFn95 fxFm95 fxFb95 fxFi95 fxFj95 fxFn96 fxFm96 fxFb96 fxFi96 fxFj96 fxFn97 fxFm97 fxFb97 fxFi97 fxFj97 fxFn98 fxFm98 fxFb98 fxFi98 fxFj98 fxFn99 fxFm99 fxFb99 fxFi99 fxFj99 fxFn100 fxFm100 fxFb100 fxFi100 fxFj100 fxFn101 fxFm101 fxFb101 fxFi101 fxFj101 fxFn102 fxFm102 fxFb102 fxFi102 fxFj102 fxFn103 fxFm103 fxFb103 fxFi103 fxFj103 fxFn104 fxFm104 fxFb104 fxFi104 fxFj104 fxFn105 fxFm105 fxFb105 fxFi105 fxFj105 fxFn106 fxFm106 fxFb106 fxFi106 fxFj106 fxFn107 fxFm107 fxFb107 fxFi107 fxFj107 fxFn108 fxFm108 fxFb108 fxFi108 fxFj108 fxFn109 fxFm109 fxFb109 fxFi109 fxFj109 fxFn110 fxFm110 fxFb110 fxFi110 fxFj110 fxFn111 fxFm111 fxFb111 fxFi111 fxFj111 fxFn112 fxFm112 fxFb112 fxFi112 fxFj112 fxFn113 fxFm113 fxFb113 fxFi113 fxFj113 fxFn114 fxFm114 fxFb114 fxFi114 fxFj114 fxFn115 fxFm115 fxFb115 fxFi115 fxFj115 fxFn116 fxFm116 fxFb116 fxFi116 fxFj116 fxFn117 fxFm117 fxFb117 fxFi117 fxFj117 fxFn118 fxFm118 fxFb118 fxFi118 fxFj118 fxFn119 fxFm119 fxFb119 fxFi119 fxFj119 fxFn120 fxFm120 fxFb120 fxFi120 fxFj120 fxFn121 fxFm121 fxFb121 fxFi121 fxFj121 fxFn122 fxFm122 fxFb122 fxFi122 fxFj122 fxFn123 fxFm123 fxFb123 fxFi123 fxFj123 fxFn124 fxFm124 fxFb124 fxFi124 fxFj124 fxFn125 fxFm125 fxFb125 fxFi125 fxFj125 fxFn126 fxFm126 fxFb126 fxFi126 fxFj126 fxFn127 fxFm127 fxFb127 fxFi127 fxFj127 fxFn128 fxFm128 fxFb128 fxFi128 fxFj128 fxFn129 fxFm129 fxFb129 fxFi129 fxFj129 fxFn130 fxFm130 fxFb130 fxFi130 fxFj130 fxFn131 fxFm131 fxFb131 fxFi131 fxFj131 fxFn132 fxFm132 fxFb132 fxFi132 fxFj132 fxFn133 fxFm133 fxFb133 fxFi133 fxFj133 fxFn134 fxFm134 fxFb134 fxFi134 fxFj134 fxFn135 fxFm135 fxFb135 fxFi135 fxFj135 fxFn136 fxFm136 fxFb136 fxFi136 fxFj136 fxFn137 fxFm137 fxFb137 fxFi137 fxFj137 fxFn138 fxFm138 fxFb138 fxFi138 fxFj138 fxFn139 fxFm139 fxFb139 fxFi139 fxFj139 fxFn140 fxFm140 fxFb140 fxFi140 fxFj140 fxFn141 fxFm141 fxFb141 fxFi141 fxFj141 fxFn142 fxFm142 fxFb142 fxFi142 fxFj142 fxFn143 fxFm143 fxFb143 fxFi143 fxFj143 fxFn144 fxFm144 fxFb144 fxFi144 fxFj144 fxFn145 fxFm145 fxFb145 fxFi145 fxFj145 fxFn146 fxFm146 fxFb146 fxFi146 fxFj146 fxFn147 fxFm147 fxFb147 fxFi147 fxFj147 fxFn148 fxFm148 fxFb148 fxFi148 fxFj148 fxFn149 fxFm149 fxFb149 fxFi149 fxFj149 fxFn150 fxFm150 fxFb150 fxFi150 fxFj150 fxFn151 fxFm151 fxFb151 fxFi151 fxFj151 fxFn152 fxFm152 fxFb152 fxFi152 fxFj152 fxFn153 fxFm153 fxFb153 fxFi153 fxFj153 fxFn154 fxFm154 fxFb154 fxFi154 fxFj154 fxFn155 fxFm155 fxFb155 fxFi155 fxFj155 fxFn156 fxFm156 fxFn157 fxFm157 fxFb157 fxFi157 fxFj157 fxFn158 fxFm158 fxFb158 fxFi158 fxFj158 fxFn159 fxFm159 fxFb159 fxFi159 fxFj159 fxFn160 fxFm160 fxFb160 fxFi160 fxFj160 fxFn161 fxFm161 fxFn162 fxFm162 fxFb162 fxFi162 fxFj162 fxFn163 fxFm163 fxFb163 fxFi163 fxFj163 fxFn164 fxFm164 fxFb164 fxFi164 fxFj164 fxFn165 fxFm165 fxFb165 fxFi165 fxFj165 fxFn166 fxFm166 fxFb166 fxFi166 fxFj166 fxFn167 fxFm167 fxFb167 fxFi167 fxFj167 fxFn168 fxFm168 fxFb168 fxFi168 fxFj168 fxFn169 fxFm169 fxFb169 fxFi169 fxFj169 fxFn170 fxFm170 fxFb170 fxFi170 fxFj170 fxFn171 fxFm171 fxFb171 fxFi171 fxFj171 fxFn172 fxFm172 fxFb172 fxFi172 fxFj172 fxFn173 fxFm173 fxFn174 fxFm174 fxFb174 fxFi174 fxFj174 fxFn175 fxFm175 fxFb175 fxFi175 fxFj175 fxFn176 fxFm176 fxFb176 fxFi176 fxFj176 fxFn177 fxFm177 fxFb177 fxFi177 fxFj177 fxFn178 fxFm178 fxFb178 fxFi178 fxFj178 fxFn179 fxFm179 fxFb179 fxFi179 fxFj179 fxFn180 fxFm180 fxFn181 fxFm181 fxFb181 fxFi181 fxFj181 fxFn182 fxFm182 fxFb182 fxFi182 fxFj182 fxFn183 fxFm183 fxFn184 fxFm184 fxFb184 fxFi184 fxFj184 fxFn185 fxFm185 fxFb185 fxFi185 fxFj185 fxFn186 fxFm186 fxFb186 fxFi186 fxFj186 fxFn187 fxFm187 fxFb187 fxFi187 fxFj187 fxFn188 fxFm188 fxFb188 fxFi188 fxFj188 fxFn189 fxFm189 fxFb189 fxFi189 fxFj189 fxFn190 fxFm190 fxFb190 fxFi190 fxFj190 fxFn191 fxFm191 fxFn192 fxFm192 fxFb192 fxFi192 fxFj192 fxFn193 fxFm193 fxFb193 fxFi193 fxFj193 fxFn194 fxFm194 fxFb194 fxFi194 fxFj194 fxFn195 fxFm195 fxFb195 fxFi195 fxFj195 fxFn196 fxFm196 fxFb196 fxFi196 fxFj196 fxFn197 fxFm197 fxFb197 fxFi197 fxFj197 fxFn198 fxFm198 fxFb198 fxFi198 fxFj198 fxFn199 fxFm199 fxFb199 fxFi199 fxFj199 fxFn200 fxFm200 fxFb200 fxFi200 fxFj200 fxFn201 fxFm201 fxFn202 fxFm202 fxFb202 fxFi202 fxFj202 fxFn203 fxFm203 fxFb203 fxFi203 fxFj203 fxFn204 fxFm204 fxFb204 fxFi204 fxFj204 fxFn205 fxFm205 fxFb205 fxFi205 fxFj205 fxFn206 fxFm206 fxFb206 fxFi206 fxFj206 fxFn207 fxFm207 fxFb207 fxFi207 fxFj207 fxFn208 fxFm208 fxFb208 fxFi208 fxFj208 fxFn209 fxFm209 fxFb209 fxFi209 fxFj209 fxFn210 fxFm210 fxFb210 fxFi210 fxFj210 fxFn211 fxFm211 fxFb211 fxFi211 fxFj211 fxFn212 fxFm212 fxFb212 fxFi212 fxFj212 fxFn213 fxFm213 fxFb213 fxFi213 fxFj213 fxFn214 fxFm214 fxFb214 fxFi214 fxFj214 fxFn215 fxFm215 fxFb215 fxFi215 fxFj215 fxFn216 fxFm216 fxFb216 fxFi216 fxFj216 fxFn217 fxFm217 fxFb217 fxFi217 fxFj217 fxFn218 fxFm218 fxFb218 fxFi218 fxFj218 fxFn219 fxFm219 fxFb219 fxFi219 fxFj219 fxFn220 fxFm220 fxFb220 fxFi220 fxFj220 fxFn221 fxFm221 fxFb221 fxFi221 fxFj221 fxFn222 fxFm222 fxFb222 fxFi222 fxFj222 fxFn223 fxFm223 fxFb223 fxFi223 fxFj223 fxFn224 fxFm224 fxFb224 fxFi224 fxFj224 fxFn225 fxFm225 fxFb225 fxFi225 fxFj225 fxFn226 fxFm226 fxFb226 fxFi226 fxFj226 fxFn227 fxFm227 fxFb227 fxFi227 fxFj227 fxFn228 fxFm228 fxFb228 fxFi228 fxFj228 fxFn229 fxFm229 fxFb229 fxFi229 fxFj229 fxFn230 fxFm230 fxFb230 fxFi230 fxFj230 fxFn231 fxFm231 fxFb231 fxFi231 fxFj231 fxFn232 fxFm232 fxFb232 fxFi232 fxFj232 fxFn233 fxFm233 fxFb233 fxFi233 fxFj233 fxFn234 fxFm234 fxFb234 fxFi234 fxFj234
section
attribute [local simp] Pg.eta Pg.cold Pg.mapM Pg.mapMc Pg.view Pg.viewc Pg.hotR Pg.ren Pg.renc Pg.low Pg.tau Pg.tauc Pg.bare Pg.flat Pg.flat1 Pg.mapMt Pg.mapMd Pg.coldt Pg.coldd Pg.hotRt Pg.hotRd
attribute [local simp] Pp.eta Pp.cold Pp.mapM Pp.mapMc Pp.view Pp.viewc Pp.hotR Pp.ren Pp.renc Pp.low Pp.tau Pp.tauc Pp.bare Pp.flat Pp.flat1 Pp.mapMt Pp.mapMd Pp.coldt Pp.coldd Pp.hotRt Pp.hotRd
attribute [local simp] Ca.eta Ca.dec_row Ca.dec_hrow Ca.cold Ca.hcold Ca.mapM Ca.mapMc Ca.hmapM Ca.hmapMc Ca.view Ca.viewc Ca.hview Ca.hviewc Ca.hotR Ca.ren Ca.renc Ca.low Ca.hlow
attribute [local simp] okL_tau okL_bare okL_allV okL_one okL_res
def caX : Except Int Ca → Bool × List Pp × Int × Int
  | .ok c => (true, c.pages, c.clock, 0)
  | .error e => (false, [], 0, e)
def caU (q : Bool × List Pp × Int × Int) : AVal × Heap := (.tup [.agg [okL q.1 0 20 q.2.1.length, .v (.int .i64 q.2.2.1)], .v (.int .i64 q.2.2.2)], [okO q.1 20 (q.2.1.map Pp.row)])
def backX (c : Ca) : Bool × List Pp × Int × Pp × Bool × Int :=
  if caCheck c = 0 then
    (match caBest c.pages with
    | none => (decide (c.pages ≠ []), c.pages, c.clock, noPp, false, 0)
    | some i => (true, c.pages.set i (cleanP ((c.pages[i]?).getD noPp)), c.clock, (c.pages[i]?).getD noPp, true, 0))
  else (false, [], 0, noPp, false, caCheck c)
def backU (q : Bool × List Pp × Int × Pp × Bool × Int) : AVal × Heap := (.tup [.agg [okL q.1 0 20 q.2.1.length, .v (.int .i64 q.2.2.1)], .v (ppV q.2.2.2.1), .v (.bool q.2.2.2.2.1), .v (.int .i64 q.2.2.2.2.2)], [okO q.1 20 (q.2.1.map Pp.row)])
theorem back_err {p : Value} {b : Bool} {e : Int} : Lss (.v (.tuple #[.agg #[.slice none 0 0, .int .i64 0], p, .bool b, .int .i64 e])) (.tup [.agg [.esl, .v (.int .i64 0)], .v p, .v (.bool b), .v (.int .i64 e)]) :=
  (Lss.vals (vs := [.agg #[.slice none 0 0, .int .i64 0], p, .bool b, .int .i64 e]) rfl (fun j v r hv hr => by
    match j, hv, hr with
    | 0, hv, hr => simp at hv hr; subst hv hr; exact @agg_err
    | 1, hv, hr => simp at hv hr; subst hv hr; exact @Lss.refl _
    | 2, hv, hr => simp at hv hr; subst hv hr; exact @Lss.refl _
    | 3, hv, hr => simp at hv hr; subst hv hr; exact @Lss.refl _
    | j + 4, hv, hr => simp at hv)).1
theorem bare_setS {l : List Pp} {m : Nat} {r : Row} (hr : ∀ y, y ∈ r → bareA y = true) : (∀ x, x ∈ (l.map Pp.row).set m r → ∀ y, y ∈ x → bareA y = true) = True := by
  refine eq_true fun x hx => ?_
  rcases List.mem_or_eq_of_mem_set hx with h | rfl
  · obtain ⟨p, _, rfl⟩ := List.mem_map.1 h
    simp [Pp.row, bareA]
  · exact hr
theorem low_setS {n : Nat} {l : List Pp} {m : Nat} {r : Row} (hr : ∀ y, y ∈ r → lowA n y = true) : (∀ x, x ∈ (l.map Pp.row).set m r → ∀ y, y ∈ x → lowA n y = true) = True := by
  refine eq_true fun x hx => ?_
  rcases List.mem_or_eq_of_mem_set hx with h | rfl
  · obtain ⟨p, _, rfl⟩ := List.mem_map.1 h
    simp [Pp.row, lowA]
  · exact hr
theorem with_own : InlOk Try.prog 88 (own0 (argG (cAgg rCa) fun c => argG (cInt .i64) fun i => argG (cAgg rPp) fun p => finG (if (0 ≤ i ∧ i < c.pages.length) ∧ c.pages.length ≤ 64 then some ((.agg [.osl 0 20 0 c.pages.length c.pages.length, .v (.int .i64 c.clock)], [some (20, (c.pages.set i.toNat p).map Pp.row)])) else none))) := by
  refine ownE_3 Try.func88 rfl ?_
  rintro c i p r H' hr
  by_cases hc : (0 ≤ i ∧ i < c.pages.length) ∧ c.pages.length ≤ 64
  case neg => rw [if_neg hc] at hr; cases hr
  rw [if_pos hc] at hr
  simp only [Option.some.injEq, Prod.mk.injEq] at hr
  obtain ⟨rfl, rfl⟩ := hr
  refine bodyE_of (noOrc_ok.withIF clPp clone_loc) fxMix (by kernel_rfl) (by simp [Try.ntmps88]) ?_
  intro C cP cI cN cD cF cA cR cL
  have cn0 := orcI clPp (C := C) (by rw [cN]; rfl)
  replace cI := fun g => congrFun cI g
  simp only [Orc.withP, Orc.withI, Orc.withF, Orc.withD, Orc.withA, Orc.withR, Orc.withC, noOrc] at cI
  replace cR : C.rd = fun _ => none := cR
  replace cD : C.dyn = fun _ => [] := cD
  clear cP cN cF cA
  obtain ⟨⟨h1, h2⟩, h3⟩ := hc
  obtain ⟨l, T⟩ := c
  simp only at h2 h3 ⊢
  obtain ⟨k, rfl⟩ := Int.eq_ofNat_of_zero_le h1
  have hk : k < l.length := by omega
  have hne : ¬ l = [] := by intro h; subst h; simp at hk
  have hl : l.length ≤ 4294967296 := by omega
  obtain ⟨Y, hY⟩ : ∃ Y, l.set k p = Y := ⟨_, rfl⟩
  have hms : (l.map Pp.row).set k p.row = Y.map Pp.row := by rw [← hY, List.map_set]
  simp only [Pp.row] at hms
  simp [Try.ntmps88, Try.results88, cSl, cn0, cI, cD, cR, rCa, caDec, Ca.row, rPp, Pp.row, ppDec, cloneI, hne, hl, hk, hms, hY]
  first
  | exact ent_err (@clk_err _) (by simp [lowA, lowC])
  | (refine Ent.weakT (th := [0]) ?_; simp []; done)
  | (refine Ent.weakT (th := [1]) ?_; simp []; done)
  | (refine Ent.weakT (th := [2]) ?_; simp []; done)
  | (refine Ent.weakT (th := [3]) ?_; simp []; done)
  | (refine Ent.weakT (th := [4]) ?_; simp []; done)
  | (refine Ent.weakT (th := [5]) ?_; simp []; done)
  | (refine Ent.weakT (th := [6]) ?_; simp []; done)
  | (refine Ent.weakT (th := [7]) ?_; simp []; done)
  | (refine Ent.weakT (th := [8]) ?_; simp []; done)
  | (refine Ent.weakT (th := [9]) ?_; simp []; done)
  | (refine Ent.weakT (th := [10]) ?_; simp []; done)
  | (refine Ent.weakT (th := [11]) ?_; simp []; done)
theorem with_inl : InlOk Try.prog 88 (frame0 (own0 (argG (cAgg rCa) fun c => argG (cInt .i64) fun i => argG (cAgg rPp) fun p => finG (if (0 ≤ i ∧ i < c.pages.length) ∧ c.pages.length ≤ 64 then some ((.agg [.osl 0 20 0 c.pages.length c.pages.length, .v (.int .i64 c.clock)], [some (20, (c.pages.set i.toNat p).map Pp.row)])) else none)))) := frame0_ok with_own
theorem set_own : InlOk Try.prog 18 (own0 (argG (cAgg rCa) fun c => argG (cInt .i64) fun f => argG (cInt .i64) fun n => argG (cInt .i64) fun k => argG (cInt .u8) fun b => finG (some (caU (caX (caSet c f n k b)))))) := by
  refine ownE_5 Try.func18 rfl ?_
  rintro c f n k b r H' hr
  simp only [Option.some.injEq, Prod.mk.injEq] at hr
  obtain ⟨rfl, rfl⟩ := hr
  refine bodyE_of ((noOrc_ok.withP there_pure).withI with_inl) fxMix (by kernel_rfl) (by simp [Try.ntmps18]) ?_
  intro C cP cI cN cD cF cA cR cL
  have cp0 := orcP there_pure (C := C) (by rw [cP]; rfl)
  have cn0 := orcI with_inl (C := C) (by rw [cN]; rfl)
  replace cI := fun g => congrFun cI g
  simp only [Orc.withP, Orc.withI, Orc.withF, Orc.withD, Orc.withA, Orc.withR, Orc.withC, noOrc] at cI
  replace cR : C.rd = fun _ => none := cR
  replace cD : C.dyn = fun _ => [] := cD
  clear cP cN cF cA
  unfold caSet
  by_cases h0 : caThere c f n = 0
  case neg =>
    obtain ⟨l, T⟩ := c
    simp [Try.ntmps18, Try.results18, cSl, cp0, cn0, cI, cD, cR, rCa, caDec, Ca.row, rPp, Pp.row, ppDec, h0, caX, caU, okL, okO]
    first
    | exact ent_err (@clk_err _) (by simp [lowA, lowC])
    | (refine Ent.weakT (th := [0]) ?_; simp [-List.map_set]; done)
    | (refine Ent.weakT (th := [1]) ?_; simp [-List.map_set]; done)
    | (refine Ent.weakT (th := [2]) ?_; simp [-List.map_set]; done)
    | (refine Ent.weakT (th := [3]) ?_; simp [-List.map_set]; done)
    | (refine Ent.weakT (th := [4]) ?_; simp [-List.map_set]; done)
    | (refine Ent.weakT (th := [5]) ?_; simp [-List.map_set]; done)
    | (refine Ent.weakT (th := [6]) ?_; simp [-List.map_set]; done)
    | (refine Ent.weakT (th := [7]) ?_; simp [-List.map_set]; done)
    | (refine Ent.weakT (th := [8]) ?_; simp [-List.map_set]; done)
    | (refine Ent.weakT (th := [9]) ?_; simp [-List.map_set]; done)
    | (refine Ent.weakT (th := [10]) ?_; simp [-List.map_set]; done)
    | (refine Ent.weakT (th := [11]) ?_; simp [-List.map_set]; done)
  obtain ⟨g, hr, hh⟩ := caThere_iff.1 h0
  obtain ⟨hi, hf, hn⟩ := hasG_iff.1 hh
  have hlt : lowT c f n = (lowG c.pages f n : Int) := by unfold lowT; rw [if_pos (caChk_iff.2 ⟨g, hr⟩)]
  have hl64 := g.len
  have hc1 := g.c1
  have hc2 := g.c2
  have hpa : pgAt c f n = c.pages[lowG c.pages f n] := by simp [pgAt, hi]
  have hb := badP_iff.1 (g.each _ (List.getElem_mem hi))
  rw [hpa]
  obtain ⟨l, T⟩ := c
  simp only at hi hlt hl64 hb hc1 hc2 ⊢
  generalize lowG l f n = i at hi hlt hb ⊢
  by_cases h1 : k < 0
  · simp [Try.ntmps18, Try.results18, cSl, cp0, cn0, cI, cD, cR, rCa, caDec, Ca.row, rPp, Pp.row, ppDec, h0, h1, caX, caU, okL, okO]
    first
    | exact ent_err (@clk_err _) (by simp [lowA, lowC])
    | (refine Ent.weakT (th := [0]) ?_; simp [-List.map_set]; done)
    | (refine Ent.weakT (th := [1]) ?_; simp [-List.map_set]; done)
    | (refine Ent.weakT (th := [2]) ?_; simp [-List.map_set]; done)
    | (refine Ent.weakT (th := [3]) ?_; simp [-List.map_set]; done)
    | (refine Ent.weakT (th := [4]) ?_; simp [-List.map_set]; done)
    | (refine Ent.weakT (th := [5]) ?_; simp [-List.map_set]; done)
    | (refine Ent.weakT (th := [6]) ?_; simp [-List.map_set]; done)
    | (refine Ent.weakT (th := [7]) ?_; simp [-List.map_set]; done)
    | (refine Ent.weakT (th := [8]) ?_; simp [-List.map_set]; done)
    | (refine Ent.weakT (th := [9]) ?_; simp [-List.map_set]; done)
    | (refine Ent.weakT (th := [10]) ?_; simp [-List.map_set]; done)
    | (refine Ent.weakT (th := [11]) ?_; simp [-List.map_set]; done)
  by_cases h2 : 16 ≤ k
  · simp [Try.ntmps18, Try.results18, cSl, cp0, cn0, cI, cD, cR, rCa, caDec, Ca.row, rPp, Pp.row, ppDec, h0, h1, h2, caX, caU, okL, okO]
    first
    | exact ent_err (@clk_err _) (by simp [lowA, lowC])
    | (refine Ent.weakT (th := [0]) ?_; simp [-List.map_set]; done)
    | (refine Ent.weakT (th := [1]) ?_; simp [-List.map_set]; done)
    | (refine Ent.weakT (th := [2]) ?_; simp [-List.map_set]; done)
    | (refine Ent.weakT (th := [3]) ?_; simp [-List.map_set]; done)
    | (refine Ent.weakT (th := [4]) ?_; simp [-List.map_set]; done)
    | (refine Ent.weakT (th := [5]) ?_; simp [-List.map_set]; done)
    | (refine Ent.weakT (th := [6]) ?_; simp [-List.map_set]; done)
    | (refine Ent.weakT (th := [7]) ?_; simp [-List.map_set]; done)
    | (refine Ent.weakT (th := [8]) ?_; simp [-List.map_set]; done)
    | (refine Ent.weakT (th := [9]) ?_; simp [-List.map_set]; done)
    | (refine Ent.weakT (th := [10]) ?_; simp [-List.map_set]; done)
    | (refine Ent.weakT (th := [11]) ?_; simp [-List.map_set]; done)
  have h12 : ¬ (k < 0 ∨ 16 ≤ k) := by omega
  rw [if_neg h12]
  by_cases h3 : T = 1073741824
  · subst h3
    simp [Try.ntmps18, Try.results18, cSl, cp0, cn0, cI, cD, cR, rCa, caDec, Ca.row, rPp, Pp.row, ppDec, h0, h1, h2, caX, caU, okL, okO]
    first
    | exact ent_err (@clk_err _) (by simp [lowA, lowC])
    | (refine Ent.weakT (th := [0]) ?_; simp [-List.map_set]; done)
    | (refine Ent.weakT (th := [1]) ?_; simp [-List.map_set]; done)
    | (refine Ent.weakT (th := [2]) ?_; simp [-List.map_set]; done)
    | (refine Ent.weakT (th := [3]) ?_; simp [-List.map_set]; done)
    | (refine Ent.weakT (th := [4]) ?_; simp [-List.map_set]; done)
    | (refine Ent.weakT (th := [5]) ?_; simp [-List.map_set]; done)
    | (refine Ent.weakT (th := [6]) ?_; simp [-List.map_set]; done)
    | (refine Ent.weakT (th := [7]) ?_; simp [-List.map_set]; done)
    | (refine Ent.weakT (th := [8]) ?_; simp [-List.map_set]; done)
    | (refine Ent.weakT (th := [9]) ?_; simp [-List.map_set]; done)
    | (refine Ent.weakT (th := [10]) ?_; simp [-List.map_set]; done)
    | (refine Ent.weakT (th := [11]) ?_; simp [-List.map_set]; done)
  obtain ⟨k, rfl⟩ := Int.eq_ofNat_of_zero_le (show 0 ≤ k by omega)
  have hk : k < 16 := by omega
  have hk2 : ¬ 16 ≤ k := by omega
  have hk3 : (k : Int) < 16 := by omega
  have hk4 : 4 + k + 1 ≤ 20 := by omega
  have hk5 : k ≤ 15 := by omega
  have hk6 : 4 + k < 20 := by omega
  have hw : IntKind.i64.wrap (T + 1) = T + 1 := w64 (by omega) (by omega)
  by_cases h4 : l[i].dirty = 0
  · simp [Try.ntmps18, Try.results18, cSl, cp0, cn0, cI, cD, cR, rCa, caDec, Ca.row, rPp, Pp.row, ppDec, h0, h1, h2, h3, h4, hk, hk2, hk3, hk4, hk5, hk6, hlt, hi, hl64, hw, put_row hk, -List.map_set, caX, caU, okL, okO, setP]
    first
    | exact ent_err (@clk_err _) (by simp [lowA, lowC])
    | (refine Ent.weakT (th := [0]) ?_; simp [-List.map_set]; done)
    | (refine Ent.weakT (th := [1]) ?_; simp [-List.map_set]; done)
    | (refine Ent.weakT (th := [2]) ?_; simp [-List.map_set]; done)
    | (refine Ent.weakT (th := [3]) ?_; simp [-List.map_set]; done)
    | (refine Ent.weakT (th := [4]) ?_; simp [-List.map_set]; done)
    | (refine Ent.weakT (th := [5]) ?_; simp [-List.map_set]; done)
    | (refine Ent.weakT (th := [6]) ?_; simp [-List.map_set]; done)
    | (refine Ent.weakT (th := [7]) ?_; simp [-List.map_set]; done)
    | (refine Ent.weakT (th := [8]) ?_; simp [-List.map_set]; done)
    | (refine Ent.weakT (th := [9]) ?_; simp [-List.map_set]; done)
    | (refine Ent.weakT (th := [10]) ?_; simp [-List.map_set]; done)
    | (refine Ent.weakT (th := [11]) ?_; simp [-List.map_set]; done)
  · simp [Try.ntmps18, Try.results18, cSl, cp0, cn0, cI, cD, cR, rCa, caDec, Ca.row, rPp, Pp.row, ppDec, h0, h1, h2, h3, h4, hk, hk2, hk3, hk4, hk5, hk6, hlt, hi, hl64, hw, put_row hk, -List.map_set, caX, caU, okL, okO, setP]
    first
    | exact ent_err (@clk_err _) (by simp [lowA, lowC])
    | (refine Ent.weakT (th := [0]) ?_; simp [-List.map_set]; done)
    | (refine Ent.weakT (th := [1]) ?_; simp [-List.map_set]; done)
    | (refine Ent.weakT (th := [2]) ?_; simp [-List.map_set]; done)
    | (refine Ent.weakT (th := [3]) ?_; simp [-List.map_set]; done)
    | (refine Ent.weakT (th := [4]) ?_; simp [-List.map_set]; done)
    | (refine Ent.weakT (th := [5]) ?_; simp [-List.map_set]; done)
    | (refine Ent.weakT (th := [6]) ?_; simp [-List.map_set]; done)
    | (refine Ent.weakT (th := [7]) ?_; simp [-List.map_set]; done)
    | (refine Ent.weakT (th := [8]) ?_; simp [-List.map_set]; done)
    | (refine Ent.weakT (th := [9]) ?_; simp [-List.map_set]; done)
    | (refine Ent.weakT (th := [10]) ?_; simp [-List.map_set]; done)
    | (refine Ent.weakT (th := [11]) ?_; simp [-List.map_set]; done)
theorem set_inl : InlOk Try.prog 18 (frame0 (own0 (argG (cAgg rCa) fun c => argG (cInt .i64) fun f => argG (cInt .i64) fun n => argG (cInt .i64) fun k => argG (cInt .u8) fun b => finG (some (caU (caX (caSet c f n k b))))))) := frame0_ok set_own
theorem out_own : InlOk Try.prog 21 (own0 (argG (cAgg rCa) fun c => argG (cInt .i64) fun f => argG (cInt .i64) fun n => finG (some (caU (caX (caOut c f n)))))) := by
  refine ownE_3 Try.func21 rfl ?_
  rintro c f n r H' hr
  simp only [Option.some.injEq, Prod.mk.injEq] at hr
  obtain ⟨rfl, rfl⟩ := hr
  refine bodyE_of ((((noOrc_ok.withP there_pure).withIF clPp clone_loc).withIF delPp delete_loc).withD (fun i => if i = 6 then [(2,8),(6,8)] else [])) fxMix (by kernel_rfl) (by simp [Try.ntmps21]) ?_
  intro C cP cI cN cD cF cA cR cL
  have cp0 := orcP there_pure (C := C) (by rw [cP]; rfl)
  have cn0 := orcI clPp (C := C) (by rw [cN]; rfl)
  have cn1 := orcI delPp (C := C) (by rw [cN]; rfl)
  replace cI := fun g => congrFun cI g
  simp only [Orc.withP, Orc.withI, Orc.withF, Orc.withD, Orc.withA, Orc.withR, Orc.withC, noOrc] at cI
  replace cR : C.rd = fun _ => none := cR
  replace cD : C.dyn = fun i => if i = 6 then [(2,8),(6,8)] else [] := cD
  replace cF := fun g => congrFun cF g
  simp only [Orc.withP, Orc.withI, Orc.withF, Orc.withD, Orc.withA, Orc.withR, Orc.withC, noOrc] at cF
  replace cA : C.alt = fun _ => [] := cA
  clear cP cN
  unfold caOut
  by_cases h0 : caThere c f n = 0
  case neg =>
    obtain ⟨l, T⟩ := c
    simp [Try.ntmps21, Try.results21, cSl, cp0, cn0, cn1, cI, cD, cR, cF, cA, rCa, caDec, Ca.row, rPp, Pp.row, ppDec, h0, caX, caU, okL, okO]
    first
    | exact ent_err (@clk_err _) (by simp [lowA, lowC])
    | (refine Ent.weakT (th := [0]) ?_; simp []; done)
    | (refine Ent.weakT (th := [1]) ?_; simp []; done)
    | (refine Ent.weakT (th := [2]) ?_; simp []; done)
    | (refine Ent.weakT (th := [3]) ?_; simp []; done)
    | (refine Ent.weakT (th := [4]) ?_; simp []; done)
    | (refine Ent.weakT (th := [5]) ?_; simp []; done)
    | (refine Ent.weakT (th := [6]) ?_; simp []; done)
    | (refine Ent.weakT (th := [7]) ?_; simp []; done)
    | (refine Ent.weakT (th := [8]) ?_; simp []; done)
    | (refine Ent.weakT (th := [9]) ?_; simp []; done)
    | (refine Ent.weakT (th := [10]) ?_; simp []; done)
    | (refine Ent.weakT (th := [11]) ?_; simp []; done)
  obtain ⟨g, hr, hh⟩ := caThere_iff.1 h0
  obtain ⟨hi, hf, hn⟩ := hasG_iff.1 hh
  have hlt : lowT c f n = (lowG c.pages f n : Int) := by unfold lowT; rw [if_pos (caChk_iff.2 ⟨g, hr⟩)]
  have hl64 := g.len
  have hpa : pgAt c f n = c.pages[lowG c.pages f n] := by simp [pgAt, hi]
  rw [hpa]
  obtain ⟨l, T⟩ := c
  simp only at hi hlt hl64 ⊢
  generalize lowG l f n = k at hi hlt ⊢
  by_cases h1 : 0 < l[k].maps
  · simp [Try.ntmps21, Try.results21, cSl, cp0, cn0, cn1, cI, cD, cR, cF, cA, rCa, caDec, Ca.row, rPp, Pp.row, ppDec, h0, h1, hlt, hi, caX, caU, okL, okO]
    first
    | exact ent_err (@clk_err _) (by simp [lowA, lowC])
    | (refine Ent.weakT (th := [0]) ?_; simp []; done)
    | (refine Ent.weakT (th := [1]) ?_; simp []; done)
    | (refine Ent.weakT (th := [2]) ?_; simp []; done)
    | (refine Ent.weakT (th := [3]) ?_; simp []; done)
    | (refine Ent.weakT (th := [4]) ?_; simp []; done)
    | (refine Ent.weakT (th := [5]) ?_; simp []; done)
    | (refine Ent.weakT (th := [6]) ?_; simp []; done)
    | (refine Ent.weakT (th := [7]) ?_; simp []; done)
    | (refine Ent.weakT (th := [8]) ?_; simp []; done)
    | (refine Ent.weakT (th := [9]) ?_; simp []; done)
    | (refine Ent.weakT (th := [10]) ?_; simp []; done)
    | (refine Ent.weakT (th := [11]) ?_; simp []; done)
  by_cases h2 : 0 < l[k].dirty
  · simp [Try.ntmps21, Try.results21, cSl, cp0, cn0, cn1, cI, cD, cR, cF, cA, rCa, caDec, Ca.row, rPp, Pp.row, ppDec, h0, h1, h2, hlt, hi, caX, caU, okL, okO]
    first
    | exact ent_err (@clk_err _) (by simp [lowA, lowC])
    | (refine Ent.weakT (th := [0]) ?_; simp []; done)
    | (refine Ent.weakT (th := [1]) ?_; simp []; done)
    | (refine Ent.weakT (th := [2]) ?_; simp []; done)
    | (refine Ent.weakT (th := [3]) ?_; simp []; done)
    | (refine Ent.weakT (th := [4]) ?_; simp []; done)
    | (refine Ent.weakT (th := [5]) ?_; simp []; done)
    | (refine Ent.weakT (th := [6]) ?_; simp []; done)
    | (refine Ent.weakT (th := [7]) ?_; simp []; done)
    | (refine Ent.weakT (th := [8]) ?_; simp []; done)
    | (refine Ent.weakT (th := [9]) ?_; simp []; done)
    | (refine Ent.weakT (th := [10]) ?_; simp []; done)
    | (refine Ent.weakT (th := [11]) ?_; simp []; done)
  have hl2 : l.length ≤ 4294967296 := by omega
  have hl3 : l.length ≤ 1048576 := by omega
  have hne : ¬ l = [] := by intro h; subst h; simp at hi
  have hpos : 0 < l.length := by omega
  have hw : IntKind.i64.wrap ((k : Int) + 1) = (k : Int) + 1 := w64 (by omega) (by omega)
  have he : (List.map Pp.row l).eraseIdx k = List.map Pp.row (l.eraseIdx k) := by simp [List.eraseIdx_eq_take_drop_succ]
  have hel : (l.eraseIdx k).length = l.length - 1 := List.length_eraseIdx_of_lt hi
  have hel2 : l.length ≤ l.length - 1 + 1 := by omega
  have het : List.take (l.length - 1) (List.map Pp.row (l.eraseIdx k)) = List.map Pp.row (l.eraseIdx k) := List.take_of_length_le (by simp [hel])
  simp [Try.ntmps21, Try.results21, cSl, cp0, cn0, cn1, cI, cD, cR, cF, cA, he, hel, hel2, het, rCa, caDec, Ca.row, rPp, Pp.row, ppDec, h0, h1, h2, hlt, hi, hl2, hl3, hne, hpos, hw, caX, caU, okL, okO, cloneI, deleteI]
  first
  | exact ent_err (@clk_err _) (by simp [lowA, lowC])
  | (refine Ent.weakT (th := [0]) ?_; simp []; done)
  | (refine Ent.weakT (th := [1]) ?_; simp []; done)
  | (refine Ent.weakT (th := [2]) ?_; simp []; done)
  | (refine Ent.weakT (th := [3]) ?_; simp []; done)
  | (refine Ent.weakT (th := [4]) ?_; simp []; done)
  | (refine Ent.weakT (th := [5]) ?_; simp []; done)
  | (refine Ent.weakT (th := [6]) ?_; simp []; done)
  | (refine Ent.weakT (th := [7]) ?_; simp []; done)
  | (refine Ent.weakT (th := [8]) ?_; simp []; done)
  | (refine Ent.weakT (th := [9]) ?_; simp []; done)
  | (refine Ent.weakT (th := [10]) ?_; simp []; done)
  | (refine Ent.weakT (th := [11]) ?_; simp []; done)
theorem out_inl : InlOk Try.prog 21 (frame0 (own0 (argG (cAgg rCa) fun c => argG (cInt .i64) fun f => argG (cInt .i64) fun n => finG (some (caU (caX (caOut c f n))))))) := frame0_ok out_own
theorem bring_own : InlOk Try.prog 19 (own0 (argG (cAgg rCa) fun c => argG (cInt .i64) fun f => argG (cInt .i64) fun n => argG (cAgg rPg) fun d => finG (some (caU (caX (caBring c f n d)))))) := by
  refine ownE_4 Try.func19 rfl ?_
  rintro c f n d r H' hr
  simp only [Option.some.injEq, Prod.mk.injEq] at hr
  obtain ⟨rfl, rfl⟩ := hr
  refine bodyE_of (((((noOrc_ok.withP at_pure).withIF clPp clone_loc).withIF insPp insert_loc).withD (fun i => if i = 8 then [(2,8),(2,6),(1,8),(2,11),(8,11),(9,11)] else [])).withA (fun i => if i = 8 then [0,1,3,4,5,6,7,8,2,9,10,11,12,13,14] else [])) fxMix (by kernel_rfl) (by simp [Try.ntmps19]) ?_
  intro C cP cI cN cD cF cA cR cL
  have cp0 := orcP at_pure (C := C) (by rw [cP]; rfl)
  have cn0 := orcI clPp (C := C) (by rw [cN]; rfl)
  have cn1 := orcI insPp (C := C) (by rw [cN]; rfl)
  replace cI := fun g => congrFun cI g
  simp only [Orc.withP, Orc.withI, Orc.withF, Orc.withD, Orc.withA, Orc.withR, Orc.withC, noOrc] at cI
  replace cR : C.rd = fun _ => none := cR
  replace cD : C.dyn = fun i => if i = 8 then [(2,8),(2,6),(1,8),(2,11),(8,11),(9,11)] else [] := cD
  replace cF := fun g => congrFun cF g
  simp only [Orc.withP, Orc.withI, Orc.withF, Orc.withD, Orc.withA, Orc.withR, Orc.withC, noOrc] at cF
  replace cA : C.alt = fun i => if i = 8 then [0,1,3,4,5,6,7,8,2,9,10,11,12,13,14] else [] := cA
  have rg15 : List.range 15 = [0, 1, 2, 3, 4, 5, 6, 7, 8, 9, 10, 11, 12, 13, 14] := rfl
  clear cP cN
  unfold caBring
  by_cases h0 : caChk c f n = 0
  case neg =>
    obtain ⟨l, T⟩ := c
    simp [Try.ntmps19, Try.results19, cSl, cp0, cn0, cn1, cI, cD, cR, cF, cA, rg15, rCa, caDec, Ca.row, rPp, Pp.row, ppDec, rPg, Pg.row, pgDec, atE, h0, caX, caU, okL, okO]
    first
    | exact ent_err (@clk_err _) (by simp [lowA, lowC])
    | (refine Ent.weakT (th := [0]) ?_; simp []; done)
    | (refine Ent.weakT (th := [1]) ?_; simp []; done)
    | (refine Ent.weakT (th := [2]) ?_; simp []; done)
    | (refine Ent.weakT (th := [3]) ?_; simp []; done)
    | (refine Ent.weakT (th := [4]) ?_; simp []; done)
    | (refine Ent.weakT (th := [5]) ?_; simp []; done)
    | (refine Ent.weakT (th := [6]) ?_; simp []; done)
    | (refine Ent.weakT (th := [7]) ?_; simp []; done)
    | (refine Ent.weakT (th := [8]) ?_; simp []; done)
    | (refine Ent.weakT (th := [9]) ?_; simp []; done)
    | (refine Ent.weakT (th := [10]) ?_; simp []; done)
    | (refine Ent.weakT (th := [11]) ?_; simp []; done)
  obtain ⟨g, hr⟩ := caChk_iff.1 h0
  have hl64 := g.len
  have hle := lowG_le c.pages f n
  have hck := caCheck_iff.2 g
  by_cases h1 : hasG c.pages f n = true
  · obtain ⟨l, T⟩ := c
    simp [Try.ntmps19, Try.results19, cSl, cp0, cn0, cn1, cI, cD, cR, cF, cA, rg15, rCa, caDec, Ca.row, rPp, Pp.row, ppDec, rPg, Pg.row, pgDec, atE, h0, h1, caX, caU, okL, okO]
    first
    | exact ent_err (@clk_err _) (by simp [lowA, lowC])
    | (refine Ent.weakT (th := [0]) ?_; simp []; done)
    | (refine Ent.weakT (th := [1]) ?_; simp []; done)
    | (refine Ent.weakT (th := [2]) ?_; simp []; done)
    | (refine Ent.weakT (th := [3]) ?_; simp []; done)
    | (refine Ent.weakT (th := [4]) ?_; simp []; done)
    | (refine Ent.weakT (th := [5]) ?_; simp []; done)
    | (refine Ent.weakT (th := [6]) ?_; simp []; done)
    | (refine Ent.weakT (th := [7]) ?_; simp []; done)
    | (refine Ent.weakT (th := [8]) ?_; simp []; done)
    | (refine Ent.weakT (th := [9]) ?_; simp []; done)
    | (refine Ent.weakT (th := [10]) ?_; simp []; done)
    | (refine Ent.weakT (th := [11]) ?_; simp []; done)
  simp only [Bool.not_eq_true] at h1
  by_cases h2 : c.pages.length = 64
  · have h2' : (c.pages.length : Int) = 64 := by omega
    obtain ⟨l, T⟩ := c
    simp [Try.ntmps19, Try.results19, cSl, cp0, cn0, cn1, cI, cD, cR, cF, cA, rg15, rCa, caDec, Ca.row, rPp, Pp.row, ppDec, rPg, Pg.row, pgDec, atE, h0, h1, h2, h2', caX, caU, okL, okO]
    first
    | exact ent_err (@clk_err _) (by simp [lowA, lowC])
    | (refine Ent.weakT (th := [0]) ?_; simp []; done)
    | (refine Ent.weakT (th := [1]) ?_; simp []; done)
    | (refine Ent.weakT (th := [2]) ?_; simp []; done)
    | (refine Ent.weakT (th := [3]) ?_; simp []; done)
    | (refine Ent.weakT (th := [4]) ?_; simp []; done)
    | (refine Ent.weakT (th := [5]) ?_; simp []; done)
    | (refine Ent.weakT (th := [6]) ?_; simp []; done)
    | (refine Ent.weakT (th := [7]) ?_; simp []; done)
    | (refine Ent.weakT (th := [8]) ?_; simp []; done)
    | (refine Ent.weakT (th := [9]) ?_; simp []; done)
    | (refine Ent.weakT (th := [10]) ?_; simp []; done)
    | (refine Ent.weakT (th := [11]) ?_; simp []; done)
  have h2' : ¬ (c.pages.length : Int) = 64 := by omega
  obtain ⟨l, T⟩ := c
  simp only at hl64 hle h2 h2' h1 ⊢
  by_cases hn : l = []
  · subst hn
    have hlo : lowG [] f n = 0 := rfl
    simp [Try.ntmps19, Try.results19, cSl, cp0, cn0, cn1, cI, cD, cR, cF, cA, rg15, rCa, caDec, Ca.row, rPp, Pp.row, ppDec, rPg, Pg.row, pgDec, atE, h0, h1, hlo, caX, caU, okL, okO, cloneI, insertI, insG]
    first
    | exact ent_err (@clk_err _) (by simp [lowA, lowC])
    | (refine Ent.weakT (th := [0]) ?_; simp []; done)
    | (refine Ent.weakT (th := [1]) ?_; simp []; done)
    | (refine Ent.weakT (th := [2]) ?_; simp []; done)
    | (refine Ent.weakT (th := [3]) ?_; simp []; done)
    | (refine Ent.weakT (th := [4]) ?_; simp []; done)
    | (refine Ent.weakT (th := [5]) ?_; simp []; done)
    | (refine Ent.weakT (th := [6]) ?_; simp []; done)
    | (refine Ent.weakT (th := [7]) ?_; simp []; done)
    | (refine Ent.weakT (th := [8]) ?_; simp []; done)
    | (refine Ent.weakT (th := [9]) ?_; simp []; done)
    | (refine Ent.weakT (th := [10]) ?_; simp []; done)
    | (refine Ent.weakT (th := [11]) ?_; simp []; done)
  have hpos : 0 < l.length := List.length_pos_iff.2 hn
  have hl2 : l.length ≤ 4294967296 := by omega
  have hl3 : l.length ≤ 1048576 := by omega
  have hh1 : l.length + 1 ≤ lowG l f n + (l.length - lowG l f n + 1) := by omega
  have hh2 : ∀ x : Row, List.take (l.length + 1) (List.take (lowG l f n) (List.map Pp.row l) ++ x :: List.drop (lowG l f n) (List.map Pp.row l)) = List.take (lowG l f n) (List.map Pp.row l) ++ x :: List.drop (lowG l f n) (List.map Pp.row l) := by
    intro x; apply List.take_of_length_le; simp; omega
  obtain ⟨Y, hY⟩ : ∃ Y, insG l (lowG l f n) ⟨f, n, 0, 0, d⟩ = Y := ⟨_, rfl⟩
  have hYm : List.take (lowG l f n) (List.map Pp.row l) ++ (Pp.row ⟨f, n, 0, 0, d⟩) :: List.drop (lowG l f n) (List.map Pp.row l) = Y.map Pp.row := by rw [← hY]; simp [insG]
  have hYl : Y.length = l.length + 1 := by rw [← hY]; simp [insG]; omega
  simp only [Pp.row] at hYm
  simp [Try.ntmps19, Try.results19, cSl, cp0, cn0, cn1, cI, cD, cR, cF, cA, rg15, hY, hYm, hYl, rCa, caDec, Ca.row, rPp, Pp.row, ppDec, rPg, Pg.row, pgDec, atE, h0, h1, h2, h2', hl2, hl3, hn, hpos, hle, hh1, hh2, caX, caU, okL, okO, cloneI, insertI]
  constructor
  · first
    | exact ent_err (@clk_err _) (by simp [lowA, lowC])
    | (refine Ent.weakT (th := [0]) ?_; simp []; done)
    | (refine Ent.weakT (th := [1]) ?_; simp []; done)
    | (refine Ent.weakT (th := [2]) ?_; simp []; done)
    | (refine Ent.weakT (th := [3]) ?_; simp []; done)
    | (refine Ent.weakT (th := [4]) ?_; simp []; done)
    | (refine Ent.weakT (th := [5]) ?_; simp []; done)
    | (refine Ent.weakT (th := [6]) ?_; simp []; done)
    | (refine Ent.weakT (th := [7]) ?_; simp []; done)
    | (refine Ent.weakT (th := [8]) ?_; simp []; done)
    | (refine Ent.weakT (th := [9]) ?_; simp []; done)
    | (refine Ent.weakT (th := [10]) ?_; simp []; done)
    | (refine Ent.weakT (th := [11]) ?_; simp []; done)
  · first
    | exact ent_err (@clk_err _) (by simp [lowA, lowC])
    | (refine Ent.weakT (th := [0]) ?_; simp []; done)
    | (refine Ent.weakT (th := [1]) ?_; simp []; done)
    | (refine Ent.weakT (th := [2]) ?_; simp []; done)
    | (refine Ent.weakT (th := [3]) ?_; simp []; done)
    | (refine Ent.weakT (th := [4]) ?_; simp []; done)
    | (refine Ent.weakT (th := [5]) ?_; simp []; done)
    | (refine Ent.weakT (th := [6]) ?_; simp []; done)
    | (refine Ent.weakT (th := [7]) ?_; simp []; done)
    | (refine Ent.weakT (th := [8]) ?_; simp []; done)
    | (refine Ent.weakT (th := [9]) ?_; simp []; done)
    | (refine Ent.weakT (th := [10]) ?_; simp []; done)
    | (refine Ent.weakT (th := [11]) ?_; simp []; done)
theorem bring_inl : InlOk Try.prog 19 (frame0 (own0 (argG (cAgg rCa) fun c => argG (cInt .i64) fun f => argG (cInt .i64) fun n => argG (cAgg rPg) fun d => finG (some (caU (caX (caBring c f n d))))))) := frame0_ok bring_own
theorem back_own : InlOk Try.prog 20 (own0 (argG (cAgg rCa) fun c => finG (some (backU (backX c))))) := by
  refine ownE_1 Try.func20 rfl ?_
  rintro c r H' hr
  simp only [Option.some.injEq, Prod.mk.injEq] at hr
  obtain ⟨rfl, rfl⟩ := hr
  refine bodyE_of ((((noOrc_ok.withP caCheck_pure).withIF with_inl frame0_loc).withIF clPp clone_loc).withD (fun i => if i = 12 then [(2,4)] else if i = 16 then [(3,4),(4,5)] else [])) fxMix (by kernel_rfl) (by simp [Try.ntmps20]) ?_
  intro C cP cI cN cD cF cA cR cL
  have cp0 := orcP caCheck_pure (C := C) (by rw [cP]; rfl)
  have cn0 := orcI with_inl (C := C) (by rw [cN]; rfl)
  have cn1 := orcI clPp (C := C) (by rw [cN]; rfl)
  replace cI := fun g => congrFun cI g
  simp only [Orc.withP, Orc.withI, Orc.withF, Orc.withD, Orc.withA, Orc.withR, Orc.withC, noOrc] at cI
  replace cR : C.rd = fun _ => none := cR
  replace cD : C.dyn = fun i => if i = 12 then [(2,4)] else if i = 16 then [(3,4),(4,5)] else [] := cD
  replace cF := fun g => congrFun cF g
  simp only [Orc.withP, Orc.withI, Orc.withF, Orc.withD, Orc.withA, Orc.withR, Orc.withC, noOrc] at cF
  replace cA : C.alt = fun _ => [] := cA
  clear cP cN
  unfold backX
  by_cases h0 : caCheck c = 0
  case neg =>
    obtain ⟨l, T⟩ := c
    simp [Try.ntmps20, Try.results20, cSl, cp0, cn0, cn1, cI, cD, cR, cF, cA, rCa, caDec, Ca.row, rPp, Pp.row, ppDec, h0, backU, okL, okO, ppV, noPp, noPg]
    first
    | exact ent_err (@back_err _ _ _) (by simp [lowA, lowC])
    | (refine Ent.weakT (th := [0]) ?_; simp [bare_setS, low_setS]; done)
    | (refine Ent.weakT (th := [1]) ?_; simp [bare_setS, low_setS]; done)
    | (refine Ent.weakT (th := [2]) ?_; simp [bare_setS, low_setS]; done)
    | (refine Ent.weakT (th := [3]) ?_; simp [bare_setS, low_setS]; done)
    | (refine Ent.weakT (th := [4]) ?_; simp [bare_setS, low_setS]; done)
    | (refine Ent.weakT (th := [5]) ?_; simp [bare_setS, low_setS]; done)
    | (refine Ent.weakT (th := [6]) ?_; simp [bare_setS, low_setS]; done)
    | (refine Ent.weakT (th := [7]) ?_; simp [bare_setS, low_setS]; done)
    | (refine Ent.weakT (th := [8]) ?_; simp [bare_setS, low_setS]; done)
    | (refine Ent.weakT (th := [9]) ?_; simp [bare_setS, low_setS]; done)
    | (refine Ent.weakT (th := [10]) ?_; simp [bare_setS, low_setS]; done)
    | (refine Ent.weakT (th := [11]) ?_; simp [bare_setS, low_setS]; done)
  have g := caCheck_iff.1 h0
  have hl64 := g.len
  have hdf := g.diff
  obtain ⟨l, T⟩ := c
  simp only at hl64 hdf ⊢
  simp [Try.ntmps20, Try.results20, cSl, cp0, cn0, cn1, cI, cD, cR, cF, cA, rCa, caDec, Ca.row, rPp, ppDec, h0]
  refine loop_for l.length (fun k (b : Int) => ([(1, .ptr 0 2 0 0), (2, .ptr 1 2 0 0), (3, .ptr 2 20 0 0), (7, .v (.int .i64 b)), (20, .fsl false 20 (l.map Pp.row)), (21, .v (.int .i64 l.length)), (22, .v (.int .i64 k))], [some (2, [[.fsl false 20 (l.map Pp.row), .v (.int .i64 T)]]), some (2, [[.v (.slice none 0 0), .v (.int .i64 0)]]), some (20, [noPp.row])])) (fun k b => BestInv l k b) (-1) (by omega) (.inl ⟨rfl, fun j _ h => by omega⟩) (by simp [noPp, noPg, Pp.row]) ?_ ?_
  · rintro k b hk hinv hw
    by_cases d0 : 0 < l[k].dirty
    case neg =>
      have hn := hinv.skip hk d0
      rcases hinv with ⟨rfl, h2⟩ | ⟨m, hm, rfl, h2, h3, h4⟩
      · simp [Try.ntmps20, Try.results20, cSl, cp0, cn0, cn1, cI, cD, cR, cF, cA, rCa, caDec, Ca.row, rPp, Pp.row, ppDec, noPp, noPg, hk, hw, d0]
        exact hn
      · have hm0 : ¬ (m : Int) < 0 := by omega
        simp [Try.ntmps20, Try.results20, cSl, cp0, cn0, cn1, cI, cD, cR, cF, cA, rCa, caDec, Ca.row, rPp, Pp.row, ppDec, noPp, noPg, hk, hw, d0, hm, hm0]
        exact hn
    have hnew := hinv.new hk d0
    rcases id hinv with ⟨rfl, h2⟩ | ⟨m, hm, rfl, h2, h3, h4⟩
    · have hn := hnew (.inl (by omega))
      simp [Try.ntmps20, Try.results20, cSl, cp0, cn0, cn1, cI, cD, cR, cF, cA, rCa, caDec, Ca.row, rPp, Pp.row, ppDec, noPp, noPg, hk, hw, d0]
      exact hn
    · have hm0 : ¬ (m : Int) < 0 := by omega
      by_cases hlt : l[k].dirty < l[m].dirty
      · have hn := hnew (.inr ⟨m, hm, rfl, hlt⟩)
        simp [Try.ntmps20, Try.results20, cSl, cp0, cn0, cn1, cI, cD, cR, cF, cA, rCa, caDec, Ca.row, rPp, Pp.row, ppDec, noPp, noPg, hk, hw, d0, hm, hm0, hlt]
        exact hn
      · have hn := hinv.keep hk hm hlt
        simp [Try.ntmps20, Try.results20, cSl, cp0, cn0, cn1, cI, cD, cR, cF, cA, rCa, caDec, Ca.row, rPp, Pp.row, ppDec, noPp, noPg, hk, hw, d0, hm, hm0, hlt]
        exact hn
  · rintro b hinv
    rcases hinv.last hdf with ⟨rfl, hb⟩ | ⟨m, hm, rfl, hb⟩
    · by_cases hn : l = []
      · subst hn
        simp [Try.ntmps20, Try.results20, cSl, cp0, cn0, cn1, cI, cD, cR, cF, cA, rCa, caDec, Ca.row, rPp, Pp.row, ppDec, hb, backU, okL, okO, cloneI, ppV, noPp, noPg]
        first
        | exact ent_err (@back_err _ _ _) (by simp [lowA, lowC])
        | (refine Ent.weakT (th := [0]) ?_; simp [bare_setS, low_setS]; done)
        | (refine Ent.weakT (th := [1]) ?_; simp [bare_setS, low_setS]; done)
        | (refine Ent.weakT (th := [2]) ?_; simp [bare_setS, low_setS]; done)
        | (refine Ent.weakT (th := [3]) ?_; simp [bare_setS, low_setS]; done)
        | (refine Ent.weakT (th := [4]) ?_; simp [bare_setS, low_setS]; done)
        | (refine Ent.weakT (th := [5]) ?_; simp [bare_setS, low_setS]; done)
        | (refine Ent.weakT (th := [6]) ?_; simp [bare_setS, low_setS]; done)
        | (refine Ent.weakT (th := [7]) ?_; simp [bare_setS, low_setS]; done)
        | (refine Ent.weakT (th := [8]) ?_; simp [bare_setS, low_setS]; done)
        | (refine Ent.weakT (th := [9]) ?_; simp [bare_setS, low_setS]; done)
        | (refine Ent.weakT (th := [10]) ?_; simp [bare_setS, low_setS]; done)
        | (refine Ent.weakT (th := [11]) ?_; simp [bare_setS, low_setS]; done)
      · have hl2 : l.length ≤ 4294967296 := by omega
        simp [Try.ntmps20, Try.results20, cSl, cp0, cn0, cn1, cI, cD, cR, cF, cA, rCa, caDec, Ca.row, rPp, Pp.row, ppDec, hb, cloneI, backU, okL, okO, hn, hl2, ppV, noPp, noPg]
        first
        | exact ent_err (@back_err _ _ _) (by simp [lowA, lowC])
        | (refine Ent.weakT (th := [0]) ?_; simp [bare_setS, low_setS]; done)
        | (refine Ent.weakT (th := [1]) ?_; simp [bare_setS, low_setS]; done)
        | (refine Ent.weakT (th := [2]) ?_; simp [bare_setS, low_setS]; done)
        | (refine Ent.weakT (th := [3]) ?_; simp [bare_setS, low_setS]; done)
        | (refine Ent.weakT (th := [4]) ?_; simp [bare_setS, low_setS]; done)
        | (refine Ent.weakT (th := [5]) ?_; simp [bare_setS, low_setS]; done)
        | (refine Ent.weakT (th := [6]) ?_; simp [bare_setS, low_setS]; done)
        | (refine Ent.weakT (th := [7]) ?_; simp [bare_setS, low_setS]; done)
        | (refine Ent.weakT (th := [8]) ?_; simp [bare_setS, low_setS]; done)
        | (refine Ent.weakT (th := [9]) ?_; simp [bare_setS, low_setS]; done)
        | (refine Ent.weakT (th := [10]) ?_; simp [bare_setS, low_setS]; done)
        | (refine Ent.weakT (th := [11]) ?_; simp [bare_setS, low_setS]; done)
    · have hm0 : ¬ (m : Int) < 0 := by omega
      simp [Try.ntmps20, Try.results20, cSl, cp0, cn0, cn1, cI, cD, cR, cF, cA, rCa, caDec, Ca.row, rPp, Pp.row, ppDec, hb, hm, hm0, hl64, bare_setS, low_setS, ppV, noPp, noPg, backU, okL, okO, cleanP]
      first
      | exact ent_err (@back_err _ _ _) (by simp [lowA, lowC])
      | (refine Ent.weakT (th := [0]) ?_; simp [bare_setS, low_setS]; done)
      | (refine Ent.weakT (th := [1]) ?_; simp [bare_setS, low_setS]; done)
      | (refine Ent.weakT (th := [2]) ?_; simp [bare_setS, low_setS]; done)
      | (refine Ent.weakT (th := [3]) ?_; simp [bare_setS, low_setS]; done)
      | (refine Ent.weakT (th := [4]) ?_; simp [bare_setS, low_setS]; done)
      | (refine Ent.weakT (th := [5]) ?_; simp [bare_setS, low_setS]; done)
      | (refine Ent.weakT (th := [6]) ?_; simp [bare_setS, low_setS]; done)
      | (refine Ent.weakT (th := [7]) ?_; simp [bare_setS, low_setS]; done)
      | (refine Ent.weakT (th := [8]) ?_; simp [bare_setS, low_setS]; done)
      | (refine Ent.weakT (th := [9]) ?_; simp [bare_setS, low_setS]; done)
      | (refine Ent.weakT (th := [10]) ?_; simp [bare_setS, low_setS]; done)
      | (refine Ent.weakT (th := [11]) ?_; simp [bare_setS, low_setS]; done)
theorem back_inl : InlOk Try.prog 20 (frame0 (own0 (argG (cAgg rCa) fun c => finG (some (backU (backX c)))))) := frame0_ok back_own
end
section
attribute [local simp] Pg.eta Pg.cold Pg.mapM Pg.mapMc Pg.view Pg.viewc Pg.hotR Pg.ren Pg.renc Pg.low Pg.tau Pg.tauc Pg.bare Pg.flat Pg.flat1 Pg.mapMt Pg.mapMd Pg.coldt Pg.coldd Pg.hotRt Pg.hotRd
attribute [local simp] Pp.eta Pp.cold Pp.mapM Pp.mapMc Pp.view Pp.viewc Pp.hotR Pp.ren Pp.renc Pp.low Pp.tau Pp.tauc Pp.bare Pp.flat Pp.flat1 Pp.mapMt Pp.mapMd Pp.coldt Pp.coldd Pp.hotRt Pp.hotRd
attribute [local simp] Ca.eta Ca.dec_row Ca.dec_hrow Ca.cold Ca.hcold Ca.mapM Ca.mapMc Ca.hmapM Ca.hmapMc Ca.view Ca.viewc Ca.hview Ca.hviewc Ca.hotR Ca.ren Ca.renc Ca.low Ca.hlow
attribute [local simp] Item.eta Item.cold Item.mapM Item.mapMc Item.view Item.viewc Item.hotR Item.ren Item.renc Item.low Item.tau Item.tauc Item.bare Item.flat Item.flat1 Item.mapMt Item.mapMd Item.coldt Item.coldd Item.hotRt Item.hotRd
attribute [local simp] Clk.eta Clk.dec_row Clk.dec_hrow Clk.cold Clk.hcold Clk.mapM Clk.mapMc Clk.hmapM Clk.hmapMc Clk.view Clk.viewc Clk.hview Clk.hviewc Clk.hotR Clk.ren Clk.renc Clk.low Clk.hlow
theorem clocks_pure : PureOk Try.prog 8 ( finM (some (.v (.bool true)))) := by
  refine pure0 Try.func8 rfl ?_
  rintro  r hr
  simp only [Option.some.injEq] at hr
  subst hr
  refine body_gen (noOrc_ok.withP clkPut_pure) fxMix (by kernel_rfl) (by simp [Try.ntmps8]) ?_
  intro C cP cI cN cD cF cA cR cL
  have cp0 := orcP clkPut_pure (C := C) (by rw [cP]; rfl)
  replace cI : C.inl = fun _ => false := cI
  replace cR : C.rd = fun _ => none := cR
  replace cD : C.dyn = fun _ => [] := cD
  clear cP cN cF cA
  have h1 : clkPut ⟨[], 0⟩ 9 = .ok ⟨[⟨9, true, false⟩], 0⟩ := rfl
  simp [Try.ntmps8, Try.results8, cSl, cp0, cI, cD, cR, rClk, clkDec, rItem, h1, clkE, Clk.hrow, Item.row]
theorem caches_pure : PureOk Try.prog 9 ( finM (some (.v (.bool true)))) := by
  refine pure0 Try.func9 rfl ?_
  rintro  r hr
  simp only [Option.some.injEq] at hr
  subst hr
  refine body_gen (noOrc_ok.withP bring_pure) fxMix (by kernel_rfl) (by simp [Try.ntmps9]) ?_
  intro C cP cI cN cD cF cA cR cL
  have cp0 := orcP bring_pure (C := C) (by rw [cP]; rfl)
  replace cI : C.inl = fun _ => false := cI
  replace cR : C.rd = fun _ => none := cR
  replace cD : C.dyn = fun _ => [] := cD
  clear cP cN cF cA
  have hB : caBring ⟨[], 1⟩ 1 2 ⟨5, 0, 0, 0, 0, 0, 0, 0, 0, 0, 0, 0, 0, 0, 0, 0⟩ = .ok ⟨[⟨1, 2, 0, 0, ⟨5, 0, 0, 0, 0, 0, 0, 0, 0, 0, 0, 0, 0, 0, 0, 0⟩⟩], 1⟩ := rfl
  simp [Try.ntmps9, Try.results9, cSl, cp0, cI, cD, cR, rCa, caDec, Ca.row, rPp, Pp.row, ppDec, rPg, Pg.row, pgDec, hB, caE, caV]
  done
theorem pp_eq (x y : Pp) : x = y ↔ (x.file = y.file ∧ x.n = y.n ∧ x.maps = y.maps ∧ x.dirty = y.dirty ∧ x.data.b0 = y.data.b0 ∧ x.data.b1 = y.data.b1 ∧ x.data.b2 = y.data.b2 ∧ x.data.b3 = y.data.b3 ∧ x.data.b4 = y.data.b4 ∧ x.data.b5 = y.data.b5 ∧ x.data.b6 = y.data.b6 ∧ x.data.b7 = y.data.b7 ∧ x.data.b8 = y.data.b8 ∧ x.data.b9 = y.data.b9 ∧ x.data.b10 = y.data.b10 ∧ x.data.b11 = y.data.b11 ∧ x.data.b12 = y.data.b12 ∧ x.data.b13 = y.data.b13 ∧ x.data.b14 = y.data.b14 ∧ x.data.b15 = y.data.b15) := by
  obtain ⟨a, b, c, d, e⟩ := x
  obtain ⟨f, g, h, i, j⟩ := y
  obtain ⟨_, _, _, _, _, _, _, _, _, _, _, _, _, _, _, _⟩ := e
  obtain ⟨_, _, _, _, _, _, _, _, _, _, _, _, _, _, _, _⟩ := j
  simp
theorem it_eq (x y : Item) : x = y ↔ (x.id = y.id ∧ x.used = y.used ∧ x.pinned = y.pinned) := by
  obtain ⟨a, b, c⟩ := x
  obtain ⟨d, e, f⟩ := y
  simp
theorem eqPp_pure : PureOk Try.prog 14 (argM (cSl rPp) fun l => argM (cSl rPp) fun m => finM (if l.length ≤ 4294967296 then some (.v (.bool (decide (l = m)))) else none)) := by
  refine pure2 Try.func14 rfl ?_
  rintro l m r hr
  by_cases hc : l.length ≤ 4294967296
  case neg => rw [if_neg hc] at hr; cases hr
  rw [if_pos hc] at hr
  simp only [Option.some.injEq] at hr
  subst hr
  refine body_gen noOrc_ok fxMix (by kernel_rfl) (by simp [Try.ntmps14]) ?_
  intro C cP cI cN cD cF cA cR cL
  replace cI : C.inl = fun _ => false := cI
  replace cR : C.rd = fun _ => none := cR
  replace cD : C.dyn = fun _ => [] := cD
  clear cP cN cF cA
  simp [Try.ntmps14, Try.results14, cSl, cI, cD, cR, rPp, Pp.row, ppDec]
  split
  · rename_i hn
    have hn : l.length = m.length := by omega
    refine loop_for l.length (fun k (_ : Unit) => ([(0, .fsl false 20 (l.map Pp.row)), (1, .fsl false 20 (m.map Pp.row)), (12, .v (.int .i64 l.length)), (13, .v (.int .i64 k))], [])) (fun k _ => l.drop k = m.drop k ↔ l = m) () hc (by simp) (by simp) ?_ ?_
    · intro k _ hk hall hw
      have hk3 : k < m.length := by omega
      rw [List.drop_eq_getElem_cons hk, List.drop_eq_getElem_cons hk3, List.cons.injEq] at hall
      have he := pp_eq l[k] m[k]
      by_cases q2 : l[k] = m[k]
      · have q3 := he.1 q2
        clear he
        simp only [q2, true_and] at hall
        simp [Try.ntmps14, Try.results14, cSl, cI, cD, cR, hk, hk3, hw, rPp, Pp.row, ppDec, q3]
        exact hall
      · have hne : ¬ l = m := fun h => q2 (hall.2 h).1
        simp [Try.ntmps14, Try.results14, cSl, cI, cD, cR, hk, hk3, hw, rPp, Pp.row, ppDec]
        split
        · exact hne
        · rename_i q
          exact absurd (he.2 (by simp_all)) q2
    · intro _ hall
      simp [hn] at hall
      simp [Try.ntmps14, Try.results14, cSl, cI, cD, cR, hall]
  · rename_i hn
    rintro rfl
    exact hn rfl
theorem eqIt_pure : PureOk Try.prog 13 (argM (cSl rItem) fun l => argM (cSl rItem) fun m => finM (if l.length ≤ 4294967296 then some (.v (.bool (decide (l = m)))) else none)) := by
  refine pure2 Try.func13 rfl ?_
  rintro l m r hr
  by_cases hc : l.length ≤ 4294967296
  case neg => rw [if_neg hc] at hr; cases hr
  rw [if_pos hc] at hr
  simp only [Option.some.injEq] at hr
  subst hr
  refine body_gen noOrc_ok fxMix (by kernel_rfl) (by simp [Try.ntmps13]) ?_
  intro C cP cI cN cD cF cA cR cL
  replace cI : C.inl = fun _ => false := cI
  replace cR : C.rd = fun _ => none := cR
  replace cD : C.dyn = fun _ => [] := cD
  clear cP cN cF cA
  simp [Try.ntmps13, Try.results13, cSl, cI, cD, cR, rItem, Item.row, itemDec]
  split
  · rename_i hn
    have hn : l.length = m.length := by omega
    refine loop_for l.length (fun k (_ : Unit) => ([(0, .fsl false 3 (l.map Item.row)), (1, .fsl false 3 (m.map Item.row)), (12, .v (.int .i64 l.length)), (13, .v (.int .i64 k))], [])) (fun k _ => l.drop k = m.drop k ↔ l = m) () hc (by simp) (by simp) ?_ ?_
    · intro k _ hk hall hw
      have hk3 : k < m.length := by omega
      rw [List.drop_eq_getElem_cons hk, List.drop_eq_getElem_cons hk3, List.cons.injEq] at hall
      have he := it_eq l[k] m[k]
      by_cases q2 : l[k] = m[k]
      · have q3 := he.1 q2
        clear he
        simp only [q2, true_and] at hall
        simp [Try.ntmps13, Try.results13, cSl, cI, cD, cR, hk, hk3, hw, rItem, Item.row, itemDec, q3]
        exact hall
      · have hne : ¬ l = m := fun h => q2 (hall.2 h).1
        simp [Try.ntmps13, Try.results13, cSl, cI, cD, cR, hk, hk3, hw, rItem, Item.row, itemDec]
        split
        · exact hne
        · rename_i q
          exact absurd (he.2 (by simp_all)) q2
    · intro _ hall
      simp [hn] at hall
      simp [Try.ntmps13, Try.results13, cSl, cI, cD, cR, hall]
  · rename_i hn
    rintro rfl
    exact hn rfl
theorem same1_pure : PureOk Try.prog 12 (argM (cFp rClk) fun c => argM (cFp (rS rItem)) fun a => argM (cFp rCa) fun p => argM (cFp (rS rPp)) fun b => finM (if (c.items.length ≤ 4294967296 ∧ p.pages.length ≤ 4294967296) then some (.v (.bool (decide (c.items = a) && decide (p.pages = b)))) else none)) := by
  refine pure4 Try.func12 rfl ?_
  rintro c a p b r hr
  by_cases hc : (c.items.length ≤ 4294967296 ∧ p.pages.length ≤ 4294967296)
  case neg => rw [if_neg hc] at hr; cases hr
  rw [if_pos hc] at hr
  simp only [Option.some.injEq] at hr
  subst hr
  refine body_gen ((noOrc_ok.withP eqIt_pure).withP eqPp_pure) fxMix (by kernel_rfl) (by simp [Try.ntmps12]) ?_
  intro C cP cI cN cD cF cA cR cL
  have cp0 := orcP eqIt_pure (C := C) (by rw [cP]; rfl)
  have cp1 := orcP eqPp_pure (C := C) (by rw [cP]; rfl)
  replace cI : C.inl = fun _ => false := cI
  replace cR : C.rd = fun _ => none := cR
  replace cD : C.dyn = fun _ => [] := cD
  clear cP cN cF cA
  obtain ⟨l, h⟩ := c
  obtain ⟨m, T⟩ := p
  simp [Try.ntmps12, Try.results12, cSl, cp0, cp1, cI, cD, cR, rClk, clkDec, Clk.row, rCa, caDec, Ca.row, rS, rItem, rPp, hc.1, hc.2]
end
end
end Go.Proofs.Ytebpjfdbjhodiaa
