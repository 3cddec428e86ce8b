/- Package reclaim: the clock. Package reclaim: Check, Put, Next. The clock's hand, as lists. Package reclaim: Next; the laws of chapter 32 about the clock. Functions of package reclaim, whose results are the caller's own. -/
import Derived.Test.YtebpjfdbjhodiaaFacts
import Derived.Test.YtebpjfdbjhodiaaPaA
namespace Go.Proofs.Ytebpjfdbjhodiaa
open Go.AI
set_option linter.unusedSimpArgs false
set_option linter.unusedVariables false
section
set_option maxHeartbeats 2000000
set_option maxRecDepth 100000
set_option linter.unusedSimpArgs false
set_option linter.unusedVariables false
attribute [local simp] wpA wpX RunA RunD runF foot footP footB idsA bare apart runL step1 gsel_f gsel_t gsel_s res_same res_and1 res_and2 res_and3 res_and4 res_and5 res_and6 res_false res_true res_v res_ptr res_fptr res_osl res_xsl soft aAppendZ aCap ovlI ovlJ res_fsl res_esl res_agg res_tup res_fn res_junk res_anyb aPick hk imp_left iteV dstOk guardOk astep astepE AI.ev AI.look AI.put envOf aBox cellsOf allOne allOneA oneA Value.oneCell' Value.cells newObj' aFieldAddr aLoad obj readAt thenA blockA condA retA resA tupA view hot hotC hotR depthV cAgg cInt cBool mkAgg allV aAlloc aBuild fillA writeAt aStore isAggA aField idx aIndexAddr aIndex bnd aSlice aExtract aLen aBuiltin aCall isStatic eqAgg eqTy eqC ev_add ev_sub ev_mul ev_quo ev_rem ev_and ev_or ev_xor ev_andNot ev_shl ev_shr ev_eql ev_neq ev_lss ev_leq ev_gtr ev_geq ev_agg w64 wu32 wu8 ev_not ev_neg Cod.plain RCod.plain argM finM cold coldC coldR goInt intDec boolDec aggDec Weaker heapW lowA lowC Again slDec undef aBuildSlice setRows aAppend rowsOf aMakeSlice aClear aCopy softer_self softer_nil valsOf ev_min2 ev_max2 hotR_set hotR_append take_map_set irow_cold irow_mapM irow_mapMc irow_view irow_viewc irow_hotR irow_ren irow_renc irow_low WeakT heapT thOf ren renC AgainT NextF NextT fnDec cFn rNil selfLt natLt0 natLt1 getLastMap frame0 frame1 own0 own1 argG finG tau tauI tauO tauC bareA bareC bareH irow_tau irow_tauc irow_bare irow_flat irow_bareR ownA_nil ownT_nil ownA_c ownT_c ownA_s ownT_s takeMapLen footC plainA noId noIdC cloneF frame0F frame1F insertF replaceI replaceF cellDec rCell fpDec cFp rTwo deleteF allV_oA oneA_oA res_oA RunR RunE runFT footAt hotR_cat tmodN aEqH aSliceA fxSz2 fxBy2 fxAg2 fxZe2 fxSl2 fxAr2 fxPl2 fxSz3 fxBy3 fxAg3 fxZe3 fxSl3 fxAr3 fxPl3 fxSz4 fxBy4 fxAg4 fxZe4 fxSl4 fxAr4 fxPl4 fxSz5 fxBy5 fxAg5 fxZe5 fxSl5 fxAr5 fxPl5 fxSz9 fxBy9 fxAg9 fxZe9 fxSl9 fxAr9 fxPl9 fxSz12 fxBy12 fxAg12 fxZe12 fxSl12 fxAr12 fxPl12 fxSz13 fxBy13 fxAg13 fxZe13 fxSl13 fxAr13 fxFi13x0 fxFi13x1 fxPl13 fxSz21 fxBy21 fxAg21 fxZe21 fxSl21 fxAr21 fxPl21 fxSz22 fxBy22 fxAg22 fxZe22 fxSl22 fxAr22 fxPl22 fxSz23 fxBy23 fxAg23 fxZe23 fxSl23 fxAr23 fxFi23x0 fxFi23x1 fxPl23 fxSz24 fxBy24 fxAg24 fxZe24 fxSl24 fxAr24 fxFi24x0 fxFi24x1 fxPl24 fxSz25 fxBy25 fxAg25 fxZe25 fxSl25 fxAr25 fxFi25x0 fxFi25x1 fxFi25x2 fxPl25 fxSz26 fxBy26 fxAg26 fxZe26 fxSl26 fxAr26 fxFi26x0 fxFi26x1 fxFi26x2 fxPl26 fxSz27 fxBy27 fxAg27 fxZe27 fxSl27 fxAr27 fxPl27 fxSz28 fxBy28 fxAg28 fxZe28 fxSl28 fxAr28 fxFi28x0 fxFi28x1 fxPl28 fxSz29 fxBy29 fxAg29 fxZe29 fxSl29 fxAr29 fxFi29x0 fxFi29x1 fxPl29 fxSz33 fxBy33 fxAg33 fxZe33 fxSl33 fxAr33 fxPl33 fxSz34 fxBy34 fxAg34 fxZe34 fxSl34 fxAr34 fxFi34x0 fxFi34x1 fxFi34x2 fxFi34x3 fxFi34x4 fxPl34 fxSz35 fxBy35 fxAg35 fxZe35 fxSl35 fxAr35 fxFi35x0 fxFi35x1 fxFi35x2 fxFi35x3 fxFi35x4 fxPl35 fxSz38 fxBy38 fxAg38 fxZe38 fxSl38 fxAr38 fxPl38 fxSz50 fxBy50 fxAg50 fxZe50 fxSl50 fxAr50 fxPl50 fxSz51 fxBy51 fxAg51 fxZe51 fxSl51 fxAr51 fxPl51 fxSz53 fxBy53 fxAg53 fxZe53 fxSl53 fxAr53 fxPl53 fxSz54 fxBy54 fxAg54 fxZe54 fxSl54 fxAr54 fxFi54x0 fxFi54x1 fxPl54 fxSz55 fxBy55 fxAg55 fxZe55 fxSl55 fxAr55 fxFi55x0 fxFi55x1 fxPl55 fxSz56 fxBy56 fxAg56 fxZe56 fxSl56 fxAr56 fxPl56 fxSz57 fxBy57 fxAg57 fxZe57 fxSl57 fxAr57 fxPl57 fxSz58 fxBy58 fxAg58 fxZe58 fxSl58 fxAr58 fxFi58x0 fxFi58x1 fxFi58x2 fxFi58x3 fxFi58x4 fxFi58x5 fxFi58x6 fxPl58 fxSz59 fxBy59 fxAg59 fxZe59 fxSl59 fxAr59 fxFi59x0 fxFi59x1 fxFi59x2 fxFi59x3 fxFi59x4 fxFi59x5 fxFi59x6 fxPl59 fxSz60 fxBy60 fxAg60 fxZe60 fxSl60 fxAr60 fxPl60 fxSz61 fxBy61 fxAg61 fxZe61 fxSl61 fxAr61 fxFi61x0 fxFi61x1 fxPl61 fxSz62 fxBy62 fxAg62 fxZe62 fxSl62 fxAr62 fxFi62x0 fxFi62x1 fxPl62 fxSz63 fxBy63 fxAg63 fxZe63 fxSl63 fxAr63 fxPl63 fxSz64 fxBy64 fxAg64 fxZe64 fxSl64 fxAr64 fxFi64x0 fxFi64x1 fxFi64x2 fxPl64 fxSz65 fxBy65 fxAg65 fxZe65 fxSl65 fxAr65 fxFi65x0 fxFi65x1 fxFi65x2 fxPl65 fxSz66 fxBy66 fxAg66 fxZe66 fxSl66 fxAr66 fxPl66 fxSz68 fxBy68 fxAg68 fxZe68 fxSl68 fxAr68 fxPl68 fxSz69 fxBy69 fxAg69 fxZe69 fxSl69 fxAr69 fxPl69 fxSz70 fxBy70 fxAg70 fxZe70 fxSl70 fxAr70 fxPl70 fxSz71 fxBy71 fxAg71 fxZe71 fxSl71 fxAr71 fxFi71x0 fxFi71x1 fxPl71 fxSz72 fxBy72 fxAg72 fxZe72 fxSl72 fxAr72 fxFi72x0 fxFi72x1 fxPl72 fxSz74 fxBy74 fxAg74 fxZe74 fxSl74 fxAr74 fxPl74 fxSz75 fxBy75 fxAg75 fxZe75 fxSl75 fxAr75 fxFi75x0 fxFi75x1 fxFi75x2 fxPl75 fxSz76 fxBy76 fxAg76 fxZe76 fxSl76 fxAr76 fxFi76x0 fxFi76x1 fxFi76x2 fxPl76 fxSz92 fxBy92 fxAg92 fxZe92 fxSl92 fxAr92 fxPl92 fxSz93 fxBy93 fxAg93 fxZe93 fxSl93 fxAr93 fxPl93 fxSz94 fxBy94 fxAg94 fxZe94 fxSl94 fxAr94 fxPl94 fxSz96 fxBy96 fxAg96 fxZe96 fxSl96 fxAr96 fxPl96 fxSz97 fxBy97 fxAg97 fxZe97 fxSl97 fxAr97 fxPl97 fxSz98 fxBy98 fxAg98 fxZe98 fxSl98 fxAr98 fxFi98x0 fxFi98x1 fxPl98 fxSz99 fxBy99 fxAg99 fxZe99 fxSl99 fxAr99 fxFi99x0 fxFi99x1 fxPl99 fxSz100 fxBy100 fxAg100 fxZe100 fxSl100 fxAr100 fxPl100 fxSz101 fxBy101 fxAg101 fxZe101 fxSl101 fxAr101 fxFi101x0 fxFi101x1 fxPl101 fxSz102 fxBy102 fxAg102 fxZe102 fxSl102 fxAr102 fxFi102x0 fxFi102x1 fxPl102 fxSz103 fxBy103 fxAg103 fxZe103 fxSl103 fxAr103 fxFi103x0 fxFi103x1 fxPl103 fxSz104 fxBy104 fxAg104 fxZe104 fxSl104 fxAr104 fxFi104x0 fxFi104x1 fxPl104 fxSz106 fxBy106 fxAg106 fxZe106 fxSl106 fxAr106 fxFi106x0 fxFi106x1 fxFi106x2 fxPl106 fxSz107 fxBy107 fxAg107 fxZe107 fxSl107 fxAr107 fxFi107x0 fxFi107x1 fxFi107x2 fxPl107 fxSz109 fxBy109 fxAg109 fxZe109 fxSl109 fxAr109 fxFi109x0 fxFi109x1 fxPl109 fxSz110 fxBy110 fxAg110 fxZe110 fxSl110 fxAr110 fxFi110x0 fxFi110x1 fxPl110 fxSz111 fxBy111 fxAg111 fxZe111 fxSl111 fxAr111 fxPl111 fxSz112 fxBy112 fxAg112 fxZe112 fxSl112 fxAr112 fxPl112 fxSz113 fxBy113 fxAg113 fxZe113 fxSl113 fxAr113 fxFi113x0 fxFi113x1 fxPl113 fxSz114 fxBy114 fxAg114 fxZe114 fxSl114 fxAr114 fxFi114x0 fxFi114x1 fxPl114 fxSz131 fxBy131 fxAg131 fxZe131 fxSl131 fxAr131 fxPl131 fxSz132 fxBy132 fxAg132 fxZe132 fxSl132 fxAr132 fxPl132 fxSz133 fxBy133 fxAg133 fxZe133 fxSl133 fxAr133 fxPl133 fxSz135 fxBy135 fxAg135 fxZe135 fxSl135 fxAr135 fxPl135 fxSz136 fxBy136 fxAg136 fxZe136 fxSl136 fxAr136 fxFi136x0 fxFi136x1 fxFi136x2 fxPl136 fxSz137 fxBy137 fxAg137 fxZe137 fxSl137 fxAr137 fxFi137x0 fxFi137x1 fxFi137x2 fxPl137 fxSz138 fxBy138 fxAg138 fxZe138 fxSl138 fxAr138 fxPl138 fxSz139 fxBy139 fxAg139 fxZe139 fxSl139 fxAr139 fxFi139x0 fxFi139x1 fxPl139 fxSz140 fxBy140 fxAg140 fxZe140 fxSl140 fxAr140 fxFi140x0 fxFi140x1 fxPl140 fxSz141 fxBy141 fxAg141 fxZe141 fxSl141 fxAr141 fxPl141 fxSz145 fxBy145 fxAg145 fxZe145 fxSl145 fxAr145 fxFi145x0 fxFi145x1 fxPl145 fxSz146 fxBy146 fxAg146 fxZe146 fxSl146 fxAr146 fxFi146x0 fxFi146x1 fxPl146 fxSz165 fxBy165 fxAg165 fxZe165 fxSl165 fxAr165 fxPl165 fxSz166 fxBy166 fxAg166 fxZe166 fxSl166 fxAr166 fxPl166 fxSz167 fxBy167 fxAg167 fxZe167 fxSl167 fxAr167 fxPl167 fxSz169 fxBy169 fxAg169 fxZe169 fxSl169 fxAr169 fxPl169 fxSz170 fxBy170 fxAg170 fxZe170 fxSl170 fxAr170 fxPl170 fxSz171 fxBy171 fxAg171 fxZe171 fxSl171 fxAr171 fxPl171 fxSz183 fxBy183 fxAg183 fxZe183 fxSl183 fxAr183 fxPl183 fxSz208 fxBy208 fxAg208 fxZe208 fxSl208 fxAr208 fxPl208 fxSz262 fxBy262 fxAg262 fxZe262 fxSl262 fxAr262 fxPl262 fxSz283 fxBy283 fxAg283 fxZe283 fxSl283 fxAr283 fxPl283 fxSz294 fxBy294 fxAg294 fxZe294 fxSl294 fxAr294 fxPl294 fxSz295 fxBy295 fxAg295 fxZe295 fxSl295 fxAr295 fxPl295 fxSz296 fxBy296 fxAg296 fxZe296 fxSl296 fxAr296 fxPl296 fxSz299 fxBy299 fxAg299 fxZe299 fxSl299 fxAr299 fxPl299 fxSz307 fxBy307 fxAg307 fxZe307 fxSl307 fxAr307 fxPl307 fxSz308 fxBy308 fxAg308 fxZe308 fxSl308 fxAr308 fxPl308 fxSz316 fxBy316 fxAg316 fxZe316 fxSl316 fxAr316 fxPl316 fxSz320 fxBy320 fxAg320 fxZe320 fxSl320 fxAr320 fxPl320 fxSz324 fxBy324 fxAg324 fxZe324 fxSl324 fxAr324 fxPl324 fxSz330 fxBy330 fxAg330 fxZe330 fxSl330 fxAr330 fxPl330 fxSz331 fxBy331 fxAg331 fxZe331 fxSl331 fxAr331 fxFi331x0 fxPl331 fxSz337 fxBy337 fxAg337 fxZe337 fxSl337 fxAr337 fxPl337 fxSz342 fxBy342 fxAg342 fxZe342 fxSl342 fxAr342 fxPl342 fxEq26 fxEq33 fxEq35 fxEq59 fxEq62 fxEq65 fxEq76 fxEq104 fxEq107 fxEq110 fxEq137 fxEq146 fxEq171 fxEq296 fxCv2x2 fxCv2x3 fxCv2x5 fxCv2x12 fxCv2x21 fxCv2x38 fxCv2x74 fxCv2x283 fxCv2x299 fxCv2x307 fxCv2x316 fxCv3x2 fxCv3x3 fxCv3x5 fxCv3x12 fxCv3x21 fxCv3x38 fxCv3x74 fxCv3x283 fxCv3x299 fxCv3x307 fxCv3x316 fxCv5x2 fxCv5x3 fxCv5x5 fxCv5x12 fxCv5x21 fxCv5x38 fxCv5x74 fxCv5x283 fxCv5x299 fxCv5x307 fxCv5x316 fxCv12x2 fxCv12x3 fxCv12x5 fxCv12x12 fxCv12x21 fxCv12x38 fxCv12x74 fxCv12x283 fxCv12x299 fxCv12x307 fxCv12x316 fxCv21x2 fxCv21x3 fxCv21x5 fxCv21x12 fxCv21x21 fxCv21x38 fxCv21x74 fxCv21x283 fxCv21x299 fxCv21x307 fxCv21x316 fxCv38x2 fxCv38x3 fxCv38x5 fxCv38x12 fxCv38x21 fxCv38x38 fxCv38x74 fxCv38x283 fxCv38x299 fxCv38x307 fxCv38x316 fxCv74x2 fxCv74x3 fxCv74x5 fxCv74x12 fxCv74x21 fxCv74x38 fxCv74x74 fxCv74x283 fxCv74x299 fxCv74x307 fxCv74x316 fxCv283x2 fxCv283x3 fxCv283x5 fxCv283x12 fxCv283x21 fxCv283x38 fxCv283x74 fxCv283x283 fxCv283x299 fxCv283x307 fxCv283x316 fxCv299x2 fxCv299x3 fxCv299x5 fxCv299x12 fxCv299x21 fxCv299x38 fxCv299x74 fxCv299x283 fxCv299x299 fxCv299x307 fxCv299x316 fxCv307x2 fxCv307x3 fxCv307x5 fxCv307x12 fxCv307x21 fxCv307x38 fxCv307x74 fxCv307x283 fxCv307x299 fxCv307x307 fxCv307x316 fxCv316x2 fxCv316x3 fxCv316x5 fxCv316x12 fxCv316x21 fxCv316x38 fxCv316x74 fxCv316x283 fxCv316x299 fxCv316x307 fxCv316x316 fxEb4 fxNb4 fxLt9 fxLn22 fxNe22 fxNn22 fxOe22 fxOn22 fxXe22 fxXn22 fxLn27 fxNe27 fxNn27 fxOe27 fxOn27 fxXe27 fxXn27 fxLn53 fxNe53 fxNn53 fxOe53 fxOn53 fxXe53 fxXn53 fxLn60 fxNe60 fxNn60 fxOe60 fxOn60 fxXe60 fxXn60 fxLn63 fxNe63 fxNn63 fxOe63 fxOn63 fxXe63 fxXn63 fxLn66 fxNe66 fxNn66 fxOe66 fxOn66 fxXe66 fxXn66 fxLn68 fxNe68 fxNn68 fxOe68 fxOn68 fxXe68 fxXn68 fxLn69 fxNe69 fxNn69 fxOe69 fxOn69 fxXe69 fxXn69 fxLn70 fxNe70 fxNn70 fxOe70 fxOn70 fxXe70 fxXn70 fxLn96 fxNe96 fxNn96 fxOe96 fxOn96 fxXe96 fxXn96 fxLn97 fxNe97 fxNn97 fxOe97 fxOn97 fxXe97 fxXn97 fxLn100 fxNe100 fxNn100 fxOe100 fxOn100 fxXe100 fxXn100 fxLn111 fxNe111 fxNn111 fxOe111 fxOn111 fxXe111 fxXn111 fxLn112 fxNe112 fxNn112 fxOe112 fxOn112 fxXe112 fxXn112 fxLn135 fxNe135 fxNn135 fxOe135 fxOn135 fxXe135 fxXn135 fxLn138 fxNe138 fxNn138 fxOe138 fxOn138 fxXe138 fxXn138 fxLn141 fxNe141 fxNn141 fxOe141 fxOn141 fxXe141 fxXn141 fxLn169 fxNe169 fxNn169 fxOe169 fxOn169 fxXe169 fxXn169 fxLn170 fxNe170 fxNn170 fxOe170 fxOn170 fxXe170 fxXn170 fxLn308 fxNe308 fxNn308 fxOe308 fxOn308 fxXe308 fxXn308 fxFn3 fxFm3 fxFb3 fxFi3 fxFj3 fxFn4 fxFm4 fxFb4 fxFi4 fxFj4 fxFn5 fxFm5 fxFb5 fxFi5 fxFj5 fxFn6 fxFm6 fxFb6 fxFi6 fxFj6 fxFn7 fxFm7 fxFb7 fxFi7 fxFj7 fxFn8 fxFm8 fxFb8 fxFi8 fxFj8 fxFn9 fxFm9 fxFb9 fxFi9 fxFj9 fxFn10 fxFm10 fxFb10 fxFi10 fxFj10 fxFn11 fxFm11 fxFb11 fxFi11 fxFj11 fxFn12 fxFm12 fxFb12 fxFi12 fxFj12 fxFn13 fxFm13 fxFb13 fxFi13 fxFj13 fxFn14 fxFm14 fxFb14 fxFi14 fxFj14 fxFn15 fxFm15 fxFb15 fxFi15 fxFj15 fxFn16 fxFm16 fxFb16 fxFi16 fxFj16 fxFn17 fxFm17 fxFb17 fxFi17 fxFj17 fxFn18 fxFm18 fxFb18 fxFi18 fxFj18 fxFn19 fxFm19 fxFb19 fxFi19 fxFj19 fxFn20 fxFm20 fxFb20 fxFi20 fxFj20 fxFn21 fxFm21 fxFb21 fxFi21 fxFj21 fxFn22 fxFm22 fxFb22 fxFi22 fxFj22 fxFn23 fxFm23 fxFb23 fxFi23 fxFj23 fxFn24 fxFm24 fxFb24 fxFi24 fxFj24 fxFn25 fxFm25 fxFb25 fxFi25 fxFj25 fxFn26 fxFm26 fxFb26 fxFi26 fxFj26 fxFn27 fxFm27 fxFb27 fxFi27 fxFj27 fxFn28 fxFm28 fxFb28 fxFi28 fxFj28 fxFn29 fxFm29 fxFb29 fxFi29 fxFj29 fxFn30 fxFm30 fxFb30 fxFi30 fxFj30 fxFn31 fxFm31 fxFb31 fxFi31 fxFj31 fxFn32 fxFm32 fxFb32 fxFi32 fxFj32 fxFn33 fxFm33 fxFb33 fxFi33 fxFj33 fxFn34 fxFm34 fxFb34 fxFi34 fxFj34 fxFn35 fxFm35 fxFb35 fxFi35 fxFj35 fxFn36 fxFm36 fxFb36 fxFi36 fxFj36 fxFn37 fxFm37 fxFb37 fxFi37 fxFj37 fxFn38 fxFm38 fxFb38 fxFi38 fxFj38 fxFn39 fxFm39 fxFb39 fxFi39 fxFj39 fxFn40 fxFm40 fxFb40 fxFi40 fxFj40 fxFn41 fxFm41 fxFb41 fxFi41 fxFj41 fxFn42 fxFm42 fxFb42 fxFi42 fxFj42 fxFn43 fxFm43 fxFb43 fxFi43 fxFj43 fxFn44 fxFm44 fxFb44 fxFi44 fxFj44 fxFn45 fxFm45 fxFb45 fxFi45 fxFj45 fxFn46 fxFm46 fxFb46 fxFi46 fxFj46 fxFn47 fxFm47 fxFb47 fxFi47 fxFj47 fxFn48 fxFm48 fxFb48 fxFi48 fxFj48 fxFn49 fxFm49 fxFb49 fxFi49 fxFj49 fxFn50 fxFm50 fxFb50 fxFi50 fxFj50 fxFn51 fxFm51 fxFb51 fxFi51 fxFj51 fxFn52 fxFm52 fxFb52 fxFi52 fxFj52 fxFn53 fxFm53 fxFb53 fxFi53 fxFj53 fxFn54 fxFm54 fxFb54 fxFi54 fxFj54 fxFn55 fxFm55 fxFb55 fxFi55 fxFj55 fxFn56 fxFm56 fxFb56 fxFi56 fxFj56 fxFn57 fxFm57 fxFb57 fxFi57 fxFj57 fxFn58 fxFm58 fxFb58 fxFi58 fxFj58 fxFn59 fxFm59 fxFb59 fxFi59 fxFj59 fxFn60 fxFm60 fxFb60 fxFi60 fxFj60 fxFn61 fxFm61 fxFb61 fxFi61 fxFj61 fxFn62 fxFm62 fxFb62 fxFi62 fxFj62 fxFn63 fxFm63 fxFb63 fxFi63 fxFj63 fxFn64 fxFm64 fxFb64 fxFi64 fxFj64 fxFn65 fxFm65 fxFb65 fxFi65 fxFj65 fxFn66 fxFm66 fxFb66 fxFi66 fxFj66 fxFn67 fxFm67 fxFb67 fxFi67 fxFj67 fxFn68 fxFm68 fxFb68 fxFi68 fxFj68 fxFn69 fxFm69 fxFb69 fxFi69 fxFj69 fxFn70 fxFm70 fxFb70 fxFi70 fxFj70 fxFn71 fxFm71 fxFb71 fxFi71 fxFj71 fxFn72 fxFm72 fxFb72 fxFi72 fxFj72 fxFn73 fxFm73 fxFb73 fxFi73 fxFj73 fxFn74 fxFm74 fxFb74 fxFi74 fxFj74 fxFn75 fxFm75 fxFb75 fxFi75 fxFj75 fxFn76 fxFm76 fxFb76 fxFi76 fxFj76 fxFn77 fxFm77 fxFb77 fxFi77 fxFj77 fxFn78 fxFm78 fxFb78 fxFi78 fxFj78 fxFn79 fxFm79 fxFb79 fxFi79 fxFj79 fxFn80 fxFm80 fxFb80 fxFi80 fxFj80 fxFn81 fxFm81 fxFb81 fxFi81 fxFj81 fxFn82 fxFm82 fxFb82 fxFi82 fxFj82 fxFn83 fxFm83 fxFb83 fxFi83 fxFj83 fxFn84 fxFm84 fxFb84 fxFi84 fxFj84 fxFn85 fxFm85 fxFb85 fxFi85 fxFj85 fxFn86 fxFm86 fxFb86 fxFi86 fxFj86 fxFn87 fxFm87 fxFb87 fxFi87 fxFj87 fxFn88 fxFm88 fxFb88 fxFi88 fxFj88 fxFn89 fxFm89 fxFb89 fxFi89 fxFj89 fxFn90 fxFm90 fxFb90 fxFi90 fxFj90 fxFn91 fxFm91 fxFb91 fxFi91 fxFj91 fxFn92 fxFm92 fxFb92 fxFi92 fxFj92 fxFn93 fxFm93 fxFb93 fxFi93 fxFj93 fxFn94 fxFm94 fxFb94 fxFi94 fxFj94 fxFn95 fxFm95 fxFb95 fxFi95 fxFj95 fxFn96 fxFm96 fxFb96 fxFi96 fxFj96 fxFn97 fxFm97 fxFb97 fxFi97 fxFj97 fxFn98 fxFm98 fxFb98 fxFi98 fxFj98 fxFn99 fxFm99 fxFb99 fxFi99 fxFj99 fxFn100 fxFm100 fxFb100 fxFi100 fxFj100 fxFn101 fxFm101 fxFb101 fxFi101 fxFj101 fxFn102 fxFm102 fxFb102 fxFi102 fxFj102 fxFn103 fxFm103 fxFb103 fxFi103 fxFj103 fxFn104 fxFm104 fxFb104 fxFi104 fxFj104 fxFn105 fxFm105 fxFb105 fxFi105 fxFj105 fxFn106 fxFm106 fxFb106 fxFi106 fxFj106 fxFn107 fxFm107 fxFb107 fxFi107 fxFj107 fxFn108 fxFm108 fxFb108 fxFi108 fxFj108 fxFn109 fxFm109 fxFb109 fxFi109 fxFj109 fxFn110 fxFm110 fxFb110 fxFi110 fxFj110 fxFn111 fxFm111 fxFb111 fxFi111 fxFj111 fxFn112 fxFm112 fxFb112 fxFi112 fxFj112 fxFn113 fxFm113 fxFb113 fxFi113 fxFj113 fxFn114 fxFm114 fxFb114 fxFi114 fxFj114 fxFn115 fxFm115 fxFb115 fxFi115 fxFj115 fxFn116 fxFm116 fxFb116 fxFi116 fxFj116 fxFn117 fxFm117 fxFb117 fxFi117 fxFj117 fxFn118 fxFm118 fxFb118 fxFi118 fxFj118 fxFn119 fxFm119 fxFb119 fxFi119 fxFj119 fxFn120 fxFm120 fxFb120 fxFi120 fxFj120 fxFn121 fxFm121 fxFb121 fxFi121 fxFj121 fxFn122 fxFm122 fxFb122 fxFi122 fxFj122 fxFn123 fxFm123 fxFb123 fxFi123 fxFj123 fxFn124 fxFm124 fxFb124 fxFi124 fxFj124 fxFn125 fxFm125 fxFb125 fxFi125 fxFj125 fxFn126 fxFm126 fxFb126 fxFi126 fxFj126 fxFn127 fxFm127 fxFb127 fxFi127 fxFj127 fxFn128 fxFm128 fxFb128 fxFi128 fxFj128 fxFn129 fxFm129 fxFb129 fxFi129 fxFj129 fxFn130 fxFm130 fxFb130 fxFi130 fxFj130 fxFn131 fxFm131 fxFb131 fxFi131 fxFj131 fxFn132 fxFm132 fxFb132 fxFi132 fxFj132 fxFn133 fxFm133 fxFb133 fxFi133 fxFj133 fxFn134 fxFm134 fxFb134 fxFi134 fxFj134 fxFn135 fxFm135 fxFb135 fxFi135 fxFj135 fxFn136 fxFm136 fxFb136 fxFi136 fxFj136 fxFn137 fxFm137 fxFb137 fxFi137 fxFj137 fxFn138 fxFm138 fxFb138 fxFi138 fxFj138 fxFn139 fxFm139 fxFb139 fxFi139 fxFj139 fxFn140 fxFm140 fxFb140 fxFi140 fxFj140 fxFn141 fxFm141 fxFb141 fxFi141 fxFj141 fxFn142 fxFm142 fxFb142 fxFi142 fxFj142 fxFn143 fxFm143 fxFb143 fxFi143 fxFj143 fxFn144 fxFm144 fxFb144 fxFi144 fxFj144 fxFn145 fxFm145 fxFb145 fxFi145 fxFj145 fxFn146 fxFm146 fxFb146 fxFi146 fxFj146 fxFn147 fxFm147 fxFb147 fxFi147 fxFj147 fxFn148 fxFm148 fxFb148 fxFi148 fxFj148 fxFn149 fxFm149 fxFb149 fxFi149 fxFj149 fxFn150 fxFm150 fxFb150 fxFi150 fxFj150 fxFn151 fxFm151 fxFb151 fxFi151 fxFj151 fxFn152 fxFm152 fxFb152 fxFi152 fxFj152 fxFn153 fxFm153 fxFb153 fxFi153 fxFj153 fxFn154 fxFm154 fxFb154 fxFi154 fxFj154 fxFn155 fxFm155 fxFb155 fxFi155 fxFj155 fxFn156 fxFm156 fxFn157 fxFm157 fxFb157 fxFi157 fxFj157 fxFn158 fxFm158 fxFb158 fxFi158 fxFj158 fxFn159 fxFm159 fxFb159 fxFi159 fxFj159 fxFn160 fxFm160 fxFb160 fxFi160 fxFj160 fxFn161 fxFm161 fxFn162 fxFm162 fxFb162 fxFi162 fxFj162 fxFn163 fxFm163 fxFb163 fxFi163 fxFj163 fxFn164 fxFm164 fxFb164 fxFi164 fxFj164 fxFn165 fxFm165 fxFb165 fxFi165 fxFj165 fxFn166 fxFm166 fxFb166 fxFi166 fxFj166 fxFn167 fxFm167 fxFb167 fxFi167 fxFj167 fxFn168 fxFm168 fxFb168 fxFi168 fxFj168 fxFn169 fxFm169 fxFb169 fxFi169 fxFj169 fxFn170 fxFm170 fxFb170 fxFi170 fxFj170 fxFn171 fxFm171 fxFb171 fxFi171 fxFj171 fxFn172 fxFm172 fxFb172 fxFi172 fxFj172 fxFn173 fxFm173 fxFn174 fxFm174 fxFb174 fxFi174 fxFj174 fxFn175 fxFm175 fxFb175 fxFi175 fxFj175 fxFn176 fxFm176 fxFb176 fxFi176 fxFj176 fxFn177 fxFm177 fxFb177 fxFi177 fxFj177 fxFn178 fxFm178 fxFb178 fxFi178 fxFj178 fxFn179 fxFm179 fxFb179 fxFi179 fxFj179 fxFn180 fxFm180 fxFn181 fxFm181 fxFb181 fxFi181 fxFj181 fxFn182 fxFm182 fxFb182 fxFi182 fxFj182 fxFn183 fxFm183 fxFn184 fxFm184 fxFb184 fxFi184 fxFj184 fxFn185 fxFm185 fxFb185 fxFi185 fxFj185 fxFn186 fxFm186 fxFb186 fxFi186 fxFj186 fxFn187 fxFm187 fxFb187 fxFi187 fxFj187 fxFn188 fxFm188 fxFb188 fxFi188 fxFj188 fxFn189 fxFm189 fxFb189 fxFi189 fxFj189 fxFn190 fxFm190 fxFb190 fxFi190 fxFj190 fxFn191 fxFm191 fxFn192 fxFm192 fxFb192 fxFi192 fxFj192 fxFn193 fxFm193 fxFb193 fxFi193 fxFj193 fxFn194 fxFm194 fxFb194 fxFi194 fxFj194 fxFn195 fxFm195 fxFb195 fxFi195 fxFj195 fxFn196 fxFm196 fxFb196 fxFi196 fxFj196 fxFn197 fxFm197 fxFb197 fxFi197 fxFj197 fxFn198 fxFm198 fxFb198 fxFi198 fxFj198 fxFn199 fxFm199 fxFb199 fxFi199 fxFj199 fxFn200 fxFm200 fxFb200 fxFi200 fxFj200 fxFn201 fxFm201 fxFn202 fxFm202 fxFb202 fxFi202 fxFj202 fxFn203 fxFm203 fxFb203 fxFi203 fxFj203 fxFn204 fxFm204 fxFb204 fxFi204 fxFj204 fxFn205 fxFm205 fxFb205 fxFi205 fxFj205 fxFn206 fxFm206 fxFb206 fxFi206 fxFj206 fxFn207 fxFm207 fxFb207 fxFi207 fxFj207 fxFn208 fxFm208 fxFb208 fxFi208 fxFj208 fxFn209 fxFm209 fxFb209 fxFi209 fxFj209 fxFn210 fxFm210 fxFb210 fxFi210 fxFj210 fxFn211 fxFm211 fxFb211 fxFi211 fxFj211 fxFn212 fxFm212 fxFb212 fxFi212 fxFj212 fxFn213 fxFm213 fxFb213 fxFi213 fxFj213 fxFn214 fxFm214 fxFb214 fxFi214 fxFj214 fxFn215 fxFm215 fxFb215 fxFi215 fxFj215 fxFn216 fxFm216 fxFb216 fxFi216 fxFj216 fxFn217 fxFm217 fxFb217 fxFi217 fxFj217 fxFn218 fxFm218 fxFb218 fxFi218 fxFj218 fxFn219 fxFm219 fxFb219 fxFi219 fxFj219 fxFn220 fxFm220 fxFb220 fxFi220 fxFj220 fxFn221 fxFm221 fxFb221 fxFi221 fxFj221 fxFn222 fxFm222 fxFb222 fxFi222 fxFj222 fxFn223 fxFm223 fxFb223 fxFi223 fxFj223 fxFn224 fxFm224 fxFb224 fxFi224 fxFj224 fxFn225 fxFm225 fxFb225 fxFi225 fxFj225 fxFn226 fxFm226 fxFb226 fxFi226 fxFj226 fxFn227 fxFm227 fxFb227 fxFi227 fxFj227 fxFn228 fxFm228 fxFb228 fxFi228 fxFj228 fxFn229 fxFm229 fxFb229 fxFi229 fxFj229 fxFn230 fxFm230 fxFb230 fxFi230 fxFj230 fxFn231 fxFm231 fxFb231 fxFi231 fxFj231 fxFn232 fxFm232 fxFb232 fxFi232 fxFj232 fxFn233 fxFm233 fxFb233 fxFi233 fxFj233 fxFn234 fxFm234 fxFb234 fxFi234 fxFj234
section
structure Item where
  id : Int
  used : Bool
  pinned : Bool
  deriving DecidableEq
def itemDec : Row → Option Item
  | [.v (.int .i64 x0), .v (.bool x1), .v (.bool x2)] => some ⟨x0, x1, x2⟩
  | _ => none
def Item.row (e : Item) : Row := [.v (.int .i64 e.id), .v (.bool e.used), .v (.bool e.pinned)]
def rItem : RCod Item := RCod.plain 3 Item.row itemDec
  (fun e => rfl) (fun _ => rfl) (fun r e h => by
    unfold itemDec at h
    split at h
    · simp at h; subst h; rfl
    · cases h)
def Item.val (e : Item) : Value := .agg #[.int .i64 e.id, .bool e.used, .bool e.pinned]
theorem Item.eta (e : Item) : Item.mk e.id e.used e.pinned = e := rfl
attribute [local simp] Item.eta
theorem Item.cold (l : List Item) : coldR (l.map Item.row) = l.map Item.row := by
  induction l with
  | nil => simp [coldR]
  | cons e l ih => simp [coldR, coldC, AI.cold, ih, Item.row]
theorem Item.mapM (l : List Item) : (l.map Item.row).mapM itemDec = some l := mapM_dec rItem l
theorem Item.mapMc (l : List Item) : l.mapM (itemDec ∘ Item.row) = some l := mapM_dec' rItem l
theorem Item.view (H : Heap) (n : Nat) (e : Item) : List.map (AI.view H n) e.row = e.row := by cases n <;> simp [Item.row, AI.view]
theorem Item.viewc (H : Heap) (n : Nat) : List.map (AI.view H n) ∘ Item.row = Item.row := by funext e; exact Item.view H n e
theorem Item.hotR (l : List Item) : AI.hotR (l.map Item.row) = true := by
  induction l with
  | nil => simp [AI.hotR]
  | cons e l ih => simp [AI.hotR, hotC, hot, ih, Item.row]
theorem Item.ren (n : Nat) (th : List Nat) (e : Item) : List.map (AI.ren n th) e.row = e.row := by simp [Item.row, AI.ren]
theorem Item.renc (n : Nat) (th : List Nat) : List.map (AI.ren n th) ∘ Item.row = Item.row := by funext e; exact Item.ren n th e
theorem Item.low (n : Nat) (e : Item) : e.row.all (lowA n) = true := by simp [Item.row, lowA]
theorem Item.tau (fp : List Nat) (n : Nat) (e : Item) : List.map (AI.tau fp n) e.row = e.row := by simp [Item.row, AI.tau]
theorem Item.tauc (fp : List Nat) (n : Nat) : List.map (AI.tau fp n) ∘ Item.row = Item.row := by funext e; exact Item.tau fp n e
theorem Item.bare (e : Item) : e.row.all bareA = true := by simp [Item.row, bareA]
theorem Item.flat (l : List Item) : flat0 (l.map Item.row) = true := by simp [flat0, Item.low]
theorem Item.flat1 (e : Item) : flat0 [e.row] = true := by simp [flat0, Item.low]
theorem Item.exact : Exact rItem := by
  intro r e h
  simp only [rItem, RCod.plain] at h ⊢
  unfold itemDec at h
  split at h
  · simp at h; subst h; rfl
  · cases h
theorem Item.mapMt (k : Nat) (l : List Item) : (List.take k (l.map Item.row)).mapM itemDec = some (l.take k) := by rw [← List.map_take]; exact mapM_dec rItem _
theorem Item.mapMd (k : Nat) (l : List Item) : (List.drop k (l.map Item.row)).mapM itemDec = some (l.drop k) := by rw [← List.map_drop]; exact mapM_dec rItem _
theorem Item.coldt (k : Nat) (l : List Item) : coldR (List.take k (l.map Item.row)) = List.take k (l.map Item.row) := by rw [← List.map_take]; exact Item.cold _
theorem Item.coldd (k : Nat) (l : List Item) : coldR (List.drop k (l.map Item.row)) = List.drop k (l.map Item.row) := by rw [← List.map_drop]; exact Item.cold _
theorem Item.hotRt (k : Nat) (l : List Item) : AI.hotR (List.take k (l.map Item.row)) = true := by rw [← List.map_take]; exact Item.hotR _
theorem Item.hotRd (k : Nat) (l : List Item) : AI.hotR (List.drop k (l.map Item.row)) = true := by rw [← List.map_drop]; exact Item.hotR _
attribute [local simp] Item.hotRt Item.hotRd
attribute [local simp] Item.tau Item.tauc Item.bare Item.flat Item.flat1 Item.mapMt Item.mapMd Item.coldt Item.coldd
attribute [local simp] Item.cold Item.mapM Item.mapMc Item.view Item.viewc Item.hotR Item.ren Item.renc Item.low
structure Clk where
  items : List Item
  hand : Int
  deriving DecidableEq
def clkDec : Row → Option Clk
  | [a0, .v (.int .i64 x1)] => match slDec rItem a0 with | some x0 => some ⟨x0, x1⟩ | _ => none
  | _ => none
def Clk.row (e : Clk) : Row := [.fsl false 3 (e.items.map Item.row), .v (.int .i64 e.hand)]
def Clk.hrow (e : Clk) : Row := [.fsl true 3 (e.items.map Item.row), .v (.int .i64 e.hand)]
theorem Clk.eta (e : Clk) : Clk.mk e.items e.hand = e := rfl
theorem Clk.dec_row (e : Clk) : clkDec e.row = some e := by
  have h0 := (cSl rItem).de e.items
  simp only [cSl] at h0
  simp only [clkDec, Clk.row]
  erw [h0]
theorem Clk.dec_hrow (e : Clk) : clkDec e.hrow = some e := Clk.dec_row e
def rClk : RCod Clk where
  sz := 2
  enc := Clk.row
  dec := clkDec
  de := Clk.dec_row
  len _ := rfl
  ok := by
    intro r e h β ok w n x hok hr
    unfold clkDec at h
    split at h
    · split at h
      · rename_i h0
        simp at h
        subst h
        refine ⟨rfl, fun j c hj => ?_⟩
        match j, hj with
        | 0, hj => simp [Clk.row] at hj; subst hj; exact (cSl rItem).ok h0 hok (hr 0 _ rfl)
        | 1, hj => simp [Clk.row] at hj; subst hj; exact hr 1 _ rfl
        | j + 2, hj => simp [Clk.row] at hj
      · cases h
    · cases h
theorem Clk.cold (l : List Clk) : coldR (l.map Clk.row) = l.map Clk.row := by
  induction l with
  | nil => simp [coldR]
  | cons e l ih => simp [coldR, coldC, AI.cold, ih, Clk.row, Item.cold, irow_cold]
theorem Clk.hcold (l : List Clk) : coldR (l.map Clk.hrow) = l.map Clk.row := by
  induction l with
  | nil => simp [coldR]
  | cons e l ih => simp [coldR, coldC, AI.cold, ih, Clk.row, Clk.hrow, Item.cold, irow_cold]
theorem Clk.mapM (l : List Clk) : (l.map Clk.row).mapM clkDec = some l := mapM_dec rClk l
theorem Clk.mapMc (l : List Clk) : l.mapM (clkDec ∘ Clk.row) = some l := mapM_dec' rClk l
theorem Clk.hmapM (l : List Clk) : (l.map Clk.hrow).mapM clkDec = some l := by
  rw [List.mapM_map]
  have : clkDec ∘ Clk.hrow = clkDec ∘ Clk.row := by funext e; simp [Function.comp, Clk.dec_row, Clk.dec_hrow]
  rw [this]; exact Clk.mapMc l
theorem Clk.hmapMc (l : List Clk) : l.mapM (clkDec ∘ Clk.hrow) = some l := by
  have := Clk.hmapM l
  rwa [List.mapM_map] at this
theorem Clk.view (H : Heap) (n : Nat) (e : Clk) : List.map (AI.view H n) e.row = e.row := by cases n <;> simp [Clk.row, AI.view]
theorem Clk.viewc (H : Heap) (n : Nat) : List.map (AI.view H n) ∘ Clk.row = Clk.row := by funext e; exact Clk.view H n e
theorem Clk.hview (H : Heap) (n : Nat) (e : Clk) : List.map (AI.view H n) e.hrow = e.hrow := by cases n <;> simp [Clk.hrow, AI.view]
theorem Clk.hviewc (H : Heap) (n : Nat) : List.map (AI.view H n) ∘ Clk.hrow = Clk.hrow := by funext e; exact Clk.hview H n e
theorem Clk.hotR (l : List Clk) : AI.hotR (l.map Clk.hrow) = true := by
  induction l with
  | nil => simp [AI.hotR]
  | cons e l ih => simp [AI.hotR, hotC, hot, ih, Clk.hrow, Item.hotR, irow_hotR]
theorem Clk.ren (n : Nat) (th : List Nat) (e : Clk) : List.map (AI.ren n th) e.row = e.row := by simp [Clk.row, AI.ren]
theorem Clk.renc (n : Nat) (th : List Nat) : List.map (AI.ren n th) ∘ Clk.row = Clk.row := by funext e; exact Clk.ren n th e
theorem Clk.low (n : Nat) (e : Clk) : e.row.all (lowA n) = true := by simp [Clk.row, lowA]
theorem Clk.hlow (n : Nat) (e : Clk) : e.hrow.all (lowA n) = true := by simp [Clk.hrow, lowA]
attribute [local simp] Clk.hlow Clk.eta Clk.dec_row Clk.dec_hrow Clk.cold Clk.hcold Clk.mapM Clk.mapMc Clk.hmapM Clk.hmapMc Clk.view Clk.viewc Clk.hview Clk.hviewc Clk.hotR Clk.ren Clk.renc Clk.low

theorem item_eq (a b : Item) : a = b ↔ (a.id = b.id ∧ a.used = b.used ∧ a.pinned = b.pinned) := by cases a; cases b; simp
def rCapI : RCod Int := rCell (cFp (rI .i64))
theorem itInsOv : InlOk Try.prog 156 ovlI := ovl_inl (t := 22) (r := 4) Try.func156 (by kernel_rfl) (by kernel_rfl) (by kernel_rfl) (by kernel_rfl) Try.underlying22 (sz := 3) (by kernel_rfl)
theorem itIns : InlOk Try.prog 83 (insertI 3) := by
  have hC := (noOrc_ok (P := Try.prog)).withI itInsOv
  refine insert_of Try.func83 rfl (by simp [Try.ntmps83]) ?_ ?_ ?_ ?_
  · intro H vid vr h1
    refine wpA_sound hC fxMix _ _ _ _ (by kernel_rfl) ?_
    have h1' := obj_get h1
    simp [Try.ntmps83, Try.results83, noOrc, Orc.withI, h1']
  · intro H id vid rows vr h1 h2 h3 h5
    refine wpA_sound hC fxMix _ _ _ _ (by kernel_rfl) ?_
    have h1' := obj_get h1
    have h2' := obj_get h2
    have h6 : ¬ (rows.length + 1 ≤ rows.length) := by omega
    have h7 : rows.length ≤ 4294967295 := by omega
    simp [Try.ntmps83, Try.results83, noOrc, Orc.withI, h1', h2', h6, h7]
  · intro H id vid i rows vr h1 h2 h3 h4 h5 h6 h7
    refine wpA_sound hC fxMix _ _ _ _ (by kernel_rfl) ?_
    have h1' := obj_get h1
    have h2' := obj_get h2
    have w1 : IntKind.i64.wrap ((rows.length : Int) + 1) = ((rows.length + 1 : Nat) : Int) := by rw [w64 (by omega) (by omega)]; simp
    obtain ⟨k, hk⟩ : ∃ k, k = rows.length + 1 - i := ⟨_, rfl⟩
    have w2 : IntKind.i64.wrap ((rows.length : Int) + 1 - i) = (k : Int) := by rw [w64 (by omega) (by omega)]; omega
    have w3 : IntKind.i64.wrap ((i : Int) + 1) = ((i + 1 : Nat) : Int) := by rw [w64 (by omega) (by omega)]; simp
    have h8 : ¬ i = rows.length := by omega
    have g1 := (List.getElem?_eq_some_iff.1 h1').2
    have g2 := (List.getElem?_eq_some_iff.1 h2').2
    have b1 : ¬ (i : Int) = rows.length := by omega
    have b2 : ¬ (rows.length : Int) = i := by omega
    have e1 : ∀ l, (H ++ l)[vid]? = some (some (3, [vr])) := by intro l; rw [List.getElem?_append_left h5, h2']
    have e2 : ∀ l, (H ++ l)[id]? = some (some (3, rows)) := by intro l; rw [List.getElem?_append_left h4, h1']
    have d0 : ¬ vid = id := fun h => h3 h.symm
    have d1 : 0 < rows.length - i := by omega
    have d2 : min 1 (rows.length + 1 - i) = 1 := by omega
    have d3 : List.take (rows.length + 1 - i) [vr] = [vr] := List.take_of_length_le (by simp; omega)
    have d4 : rows.length - i ≤ rows.length + 1 - (i + 1) := by omega
    have d5 : min (rows.length - i) (rows.length + 1 - (i + 1)) = rows.length - i := by omega
    have d6 : i + 1 + (rows.length - i) ≤ i + (rows.length - i + 1) := by omega
    have d7 : i + 1 + (rows.length - i) ≤ rows.length + 1 := by omega
    have d8 : min (i + 1) rows.length = i + 1 := by omega
    have d9 : rows.length + 1 ≤ i + 1 + (rows.length - i) := by omega
    have f1 : ∀ X, List.take (i + 1) (List.take i rows ++ vr :: X) = List.take i rows ++ [vr] := by
      intro X
      have hl : (List.take i rows).length = i := by simp; omega
      rw [List.take_append, hl, List.take_of_length_le (by omega)]; simp
    have f2 : List.take (rows.length - i) (List.drop i rows) = List.drop i rows := List.take_of_length_le (by simp)
    have f7 : ∀ X, List.take i (List.take (i + 1) rows ++ X) = List.take i rows := by intro X; rw [List.take_append_of_le_length (by simp; omega), List.take_take]; congr 1; omega
    have f8 : ∀ X, List.drop (i + 1) (List.take (i + 1) rows ++ X) = X := by intro X; rw [List.drop_append_of_le_length (by simp; omega), List.drop_eq_nil_of_le (by simp; omega)]; rfl
    have c1 : (i : Int) ≤ rows.length + 1 := by omega
    have c2 : 0 ≤ (rows.length : Int) + 1 := by omega
    have c3 : (i : Int) + 1 ≤ rows.length + 1 := by omega
    have c4 : 0 ≤ (i : Int) + 1 := by omega
    have c5 : i + 1 ≤ rows.length + 1 := by omega
    have c6 : i + (rows.length + 1 - i) = rows.length + 1 := by omega
    have c7 : i + 1 + (rows.length + 1 - (i + 1)) = rows.length + 1 := by omega
    have a1 : i ≤ rows.length := by omega
    have a2 : i + k = rows.length + 1 := by omega
    have a3 : rows.length < rows.length + 1 := by omega
    have a4 : rows.length + 1 ≤ 4294967296 := by omega
    have a5 : i ≤ rows.length + 1 := by omega
    have a6 : min i rows.length = i := by omega
    have f3 : ∀ (z : Row), List.drop (i + 1 + (rows.length - i)) (List.take i rows ++ vr :: List.drop (i + 1) (List.take i rows ++ List.replicate k z)) = [] := by intro z; apply List.drop_eq_nil_of_le; simp; omega
    simp [Try.ntmps83, Try.results83, noOrc, Orc.withI, h1', h2', w1, w2, w3, h8, h4, h5, g1, g2, e1, e2, d0, d1, d2, d3, d4, d5, d6, d7, d8, d9, f1, f2, f3,  b1, b2, c1, c2, c3, c4, c5, c6, c7, a1, a2, a3, a4, a5, a6]
  · intro H id vid i cap rows vr jr h1 h2 h3 h4 h5 h6 h7 h8
    refine wpA_sound hC fxMix _ _ _ _ (by kernel_rfl) ?_
    have h1' := obj_get h1
    have h2' := obj_get h2
    have w1 : IntKind.i64.wrap ((rows.length : Int) + 1) = ((rows.length + 1 : Nat) : Int) := by rw [w64 (by omega) (by omega)]; simp
    have w3 : IntKind.i64.wrap ((i : Int) + 1) = ((i + 1 : Nat) : Int) := by rw [w64 (by omega) (by omega)]; simp
    have h9 : ¬ i = rows.length := by omega
    have g1 := (List.getElem?_eq_some_iff.1 h1').2
    have g2 := (List.getElem?_eq_some_iff.1 h2').2
    have b1 : ¬ (i : Int) = rows.length := by omega
    have b2 : ¬ (rows.length : Int) = i := by omega
    have e1 : ∀ l, (H ++ l)[vid]? = some (some (3, [vr])) := by intro l; rw [List.getElem?_append_left h5, h2']
    have e2 : ∀ l, (H ++ l)[id]? = some (some (3, rows ++ [jr])) := by intro l; rw [List.getElem?_append_left h4, h1']
    have d0 : ¬ vid = id := fun h => h3 h.symm
    have d1 : 0 < rows.length - i := by omega
    have d2 : min 1 (rows.length + 1 - i) = 1 := by omega
    have d3 : List.take (rows.length + 1 - i) [vr] = [vr] := List.take_of_length_le (by simp; omega)
    have d4 : rows.length - i ≤ rows.length + 1 - (i + 1) := by omega
    have d5 : min (rows.length - i) (rows.length + 1 - (i + 1)) = rows.length - i := by omega
    have d6 : i + 1 + (rows.length - i) ≤ i + (rows.length - i + 1) := by omega
    have d7 : i + 1 + (rows.length - i) ≤ rows.length + 1 := by omega
    have d8 : min (i + 1) rows.length = i + 1 := by omega
    have d9 : rows.length + 1 ≤ i + 1 + (rows.length - i) := by omega
    have f1 : ∀ X, List.take (i + 1) (List.take i rows ++ vr :: X) = List.take i rows ++ [vr] := by
      intro X
      have hl : (List.take i rows).length = i := by simp; omega
      rw [List.take_append, hl, List.take_of_length_le (by omega)]; simp
    have f2 : List.take (rows.length - i) (List.drop i rows) = List.drop i rows := List.take_of_length_le (by simp)
    have f7 : ∀ X, List.take i (List.take (i + 1) rows ++ X) = List.take i rows := by intro X; rw [List.take_append_of_le_length (by simp; omega), List.take_take]; congr 1; omega
    have f8 : ∀ X, List.drop (i + 1) (List.take (i + 1) rows ++ X) = X := by intro X; rw [List.drop_append_of_le_length (by simp; omega), List.drop_eq_nil_of_le (by simp; omega)]; rfl
    have c1 : (i : Int) ≤ rows.length + 1 := by omega
    have c2 : 0 ≤ (rows.length : Int) + 1 := by omega
    have c3 : (i : Int) + 1 ≤ rows.length + 1 := by omega
    have c4 : 0 ≤ (i : Int) + 1 := by omega
    have c5 : i + 1 ≤ rows.length + 1 := by omega
    have c6 : i + (rows.length + 1 - i) = rows.length + 1 := by omega
    have c7 : i + 1 + (rows.length + 1 - (i + 1)) = rows.length + 1 := by omega
    have a1 : i ≤ rows.length := by omega
    have a3 : ¬ cap < rows.length + 1 := by omega
    have a5 : i ≤ rows.length + 1 := by omega
    have a6 : min i rows.length = i := by omega
    have a7 : (rows.length : Int) + 1 ≤ cap := by omega
    have b3 : ¬ (cap : Int) < rows.length + 1 := by omega
    have a8 : i ≤ cap := by omega
    have f4 : List.take (rows.length - i) (List.take (rows.length + 1 - i) (List.drop i (rows ++ [jr]))) = List.drop i rows := by
      rw [List.take_take, List.drop_append_of_le_length a1, List.take_append_of_le_length (by simp; omega), List.take_of_length_le (by simp; omega)]
    have f5 : List.drop (i + 1 + (rows.length - i)) (rows ++ [jr]) = [] := List.drop_eq_nil_of_le (by simp; omega)
    have f6 : List.take (i + 1) (rows ++ [jr]) = List.take (i + 1) rows := List.take_append_of_le_length (by omega)
    simp [Try.ntmps83, Try.results83, noOrc, Orc.withI, h1', h2', w1, w3, h9, h4, h5, g1, g2, e1, e2, d0, d1, d2, d3, d4, d5, d6, d7, d8, d9, f2, f4, f5, f6, f7, f8, h3, List.getElem_set_ne,  b1, b2, c1, c2, c3, c4, c5, c6, c7, a1, a3, a5, a6, a7, a8, b3]

theorem itDel : InlOk Try.prog 86 (deleteI 3) := by
  refine delete_of (z := [.v (.int .i64 0), .v (.bool false), .v (.bool false)]) Try.func86 rfl (by simp [Try.ntmps86]) ?_
  intro H id i rows h1 h2 h3 h4
  refine wpA_sound noOrc_ok fxMix _ _ _ _ (by kernel_rfl) ?_
  have h1' := obj_get h1
  have g1 := (List.getElem?_eq_some_iff.1 h1').2
  have c1 : (i : Int) + 1 ≤ rows.length := by omega
  have c2 : 0 ≤ (i : Int) + 1 := by omega
  have c3 : (i : Int) ≤ i + 1 := by omega
  have c4 : i ≤ rows.length := by omega
  have c5 : i + 1 ≤ rows.length := by omega
  have c6 : i + 1 + (rows.length - (i + 1)) ≤ rows.length := by omega
  have c7 : i + (rows.length - (i + 1)) ≤ rows.length := by omega
  have c8 : i + (rows.length - (i + 1)) = rows.length - 1 := by omega
  have c9 : rows.length - 1 ≤ rows.length := by omega
  have d1 : ¬ ((i : Int) = i + 1) := by omega
  have d2 : List.take (rows.length - (i + 1)) (List.drop (i + 1) rows) = List.drop (i + 1) rows := List.take_of_length_le (by simp)
  have d3 : rows.length - (rows.length - 1) = 1 := by omega
  have d4 : (rows.length - 1) + 1 = rows.length := by omega
  have d5 : ¬ rows.length = i := by omega
  have d6 : ¬ rows.length = 0 := by omega
  have d7 : rows.length ≤ 4294967296 := by omega
  have d8 : i + (rows.length - (i + 1)) ≤ 4294967296 := by omega
  have f1 : rows.length ≤ 4294967297 := by omega
  have f2 : rows.length ≤ i + (rows.length - (i + 1) + 1) := by omega
  have d9 : ∀ X : List Row, List.take (rows.length - 1) (List.take i rows ++ (List.drop (i + 1) rows ++ X)) = List.take i rows ++ List.drop (i + 1) rows := by
    intro X
    rw [← List.append_assoc, List.take_append_of_le_length (by simp; omega), List.take_of_length_le (by simp; omega)]
  have e1 : List.drop rows.length (List.take i rows ++ (List.drop (i + 1) rows ++ List.drop (rows.length - 1) rows)) = [] := List.drop_eq_nil_of_le (by simp; omega)
  have e2 : rows.length - 1 ≤ i + (rows.length - (i + 1) + 1) := by omega
  have e3 : min i rows.length = i := by omega
  have e4 : ((rows.length - 1 : Nat) : Int) ≤ rows.length := by omega
  simp [Try.ntmps86, Try.results86, noOrc, h1', h2, h3, g1, c1, c2, c3, c4, c5, c6, c7, c8, c9, d1, d2, d3, d4, d5, d6, d7, d8, d9, e1, e2, e3, e4, f1, f2]
theorem itClone : InlOk Try.prog 10 (cloneI 3) := by
  refine inl_soft Try.func10 rfl ?_
  intro args H r H' hr
  rcases cloneI_some hr with ⟨o, rows, rfl, hl, hc⟩ | ⟨id, st, k, kc, rows, rfl, hob, hle, hl, hc⟩ | ⟨rfl, rfl, rfl⟩
  · refine ⟨by simp [Try.ntmps10], wpA_sound noOrc_ok fxMix _ _ _ _ (by kernel_rfl) ?_⟩
    rcases hc with ⟨rfl, rfl, rfl⟩ | ⟨h0, rfl, rfl⟩
    · simp [Try.ntmps10, Try.results10, noOrc]
    · simp [Try.ntmps10, Try.results10, h0, hl, noOrc]
  · refine ⟨by simp [Try.ntmps10], wpA_sound noOrc_ok fxMix _ _ _ _ (by kernel_rfl) ?_⟩
    have hob' := obj_get hob
    have e1 : min k (rows.length - st) = k := by omega
    have e2 : st + k ≤ rows.length := hle
    have e3 : st ≤ rows.length := by omega
    rcases hc with ⟨rfl, rfl, rfl⟩ | ⟨h0, rfl, rfl⟩
    · simp [Try.ntmps10, Try.results10, noOrc, hob', e2, e3]
    · simp [Try.ntmps10, Try.results10, hl, noOrc, hob', e1, e2, h0]
  · refine ⟨by simp [Try.ntmps10], wpA_sound noOrc_ok fxMix _ _ _ _ (by kernel_rfl) ?_⟩
    simp [Try.ntmps10, Try.results10, noOrc]
theorem find1_pure : PureOk Try.prog 155 (argM (cAgg rItem) fun x => argM (cFp (rI .i64)) fun id => finM (some (.v (.bool (x.id == id))))) := by
  refine pure2 Try.func155 rfl ?_
  rintro x id r hr
  simp only [Option.some.injEq] at hr
  subst hr
  refine body_gen noOrc_ok fxMix (by kernel_rfl) (by simp [Try.ntmps155]) ?_
  intro C cP cI cN cD cF cA cR cL
  replace cI : C.inl = fun _ => false := cI
  replace cR : C.rd = fun _ => none := cR
  replace cD : C.dyn = fun _ => [] := cD
  clear cP cN cF cA
  simp [Try.ntmps155, Try.results155, cSl, cI, cD, cR, rItem, Item.row, itemDec, rI, irow]
theorem findI_pure : PureOk Try.prog 154 (argM (cSl rItem) fun l => argM (cFn 155 rCapI) fun cp => finM (if l.length ≤ 4294967296 then some (.v (.int .i64 (idxP ((fun x => x.id == cp)) l))) else none)) := by
  refine pure2 Try.func154 rfl ?_
  rintro l cp r hr
  by_cases hc : l.length ≤ 4294967296
  case neg => rw [if_neg hc] at hr; cases hr
  rw [if_pos hc] at hr
  simp only [Option.some.injEq] at hr
  subst hr
  refine body_gen (noOrc_ok.withP find1_pure) fxMix (by kernel_rfl) (by simp [Try.ntmps154]) ?_
  intro C cP cI cN cD cF cA cR cL
  have cp0 := orcP find1_pure (C := C) (by rw [cP]; rfl)
  replace cI : C.inl = fun _ => false := cI
  replace cR : C.rd = fun _ => none := cR
  replace cD : C.dyn = fun _ => [] := cD
  clear cP cN cF cA
  simp [Try.ntmps154, Try.results154, cSl, cp0, cI, cD, cR, rItem, Item.row, itemDec, rCapI, rI, irow, irowDec]
  refine loop_for l.length (fun k (_ : Unit) => ([(0, .fsl false 3 (l.map Item.row)), (1, .fn 155 [.fptr (irow .i64 cp) 0]), (7, .v (.int .i64 l.length)), (8, .v (.int .i64 k))], [])) (fun k _ => ((l.drop k).findIdx? ((fun x => x.id == cp))).map (· + k) = l.findIdx? ((fun x => x.id == cp))) () hc (by simp) (by simp [rItem, Item.row, itemDec, rCapI, rI, irow, irowDec]) ?_ ?_
  · intro k _ hk hall hw
    by_cases q : ((fun x => x.id == cp)) l[k] = true
    · rw [find_drop hk, if_pos q] at hall
      try simp at q
      simp [Try.ntmps154, Try.results154, cSl, cp0, cI, cD, cR, hk, hw, rItem, Item.row, itemDec, rCapI, rI, irow, irowDec, q, idxP, ← hall]
    · rw [find_drop hk, if_neg q] at hall
      try simp at q
      simp [Try.ntmps154, Try.results154, cSl, cp0, cI, cD, cR, hk, hw, rItem, Item.row, itemDec, rCapI, rI, irow, irowDec, q]
      simpa using hall
  · intro _ hall
    simp at hall
    simp [Try.ntmps154, Try.results154, cSl, cp0, cI, cD, cR, idxP, ← hall]
def findIt (l : List Item) (id : Int) : Int := idxP (fun x => x.id == id) l
theorem find_pure : PureOk Try.prog 82 (argM (cSl rItem) fun l => argM (cInt .i64) fun id => finM (if l.length ≤ 4294967296 then some (.v (.int .i64 (findIt l id))) else none)) := by
  refine pure2 Try.func82 rfl ?_
  rintro l id r hr
  by_cases hc : l.length ≤ 4294967296
  case neg => rw [if_neg hc] at hr; cases hr
  rw [if_pos hc] at hr
  simp only [Option.some.injEq] at hr
  subst hr
  refine body_gen (noOrc_ok.withP findI_pure) fxMix (by kernel_rfl) (by simp [Try.ntmps82]) ?_
  intro C cP cI cN cD cF cA cR cL
  have cp0 := orcP findI_pure (C := C) (by rw [cP]; rfl)
  replace cI : C.inl = fun _ => false := cI
  replace cR : C.rd = fun _ => none := cR
  replace cD : C.dyn = fun _ => [] := cD
  clear cP cN cF cA
  simp [Try.ntmps82, Try.results82, cSl, cp0, cI, cD, cR, rItem, rCapI, rI, irow, irowDec, hc, findIt]
end
section
attribute [local simp] Item.eta Item.cold Item.mapM Item.mapMc Item.view Item.viewc Item.hotR Item.ren Item.renc Item.low Item.tau Item.tauc Item.bare Item.flat Item.flat1 Item.mapMt Item.mapMd Item.coldt Item.coldd Item.hotRt Item.hotRd
attribute [local simp] Clk.eta Clk.dec_row Clk.dec_hrow Clk.cold Clk.hcold Clk.mapM Clk.mapMc Clk.hmapM Clk.hmapMc Clk.view Clk.viewc Clk.hview Clk.hviewc Clk.hotR Clk.ren Clk.renc Clk.low Clk.hlow
def ids (l : List Item) : List Int := l.map (·.id)
def clkCheck (c : Clk) : Int := if 64 < c.items.length then 2 else if c.hand < 0 ∨ max 0 ((c.items.length : Int) - 1) < c.hand then 1 else if (ids c.items).Nodup then 0 else 5
theorem findIt_iff (l : List Item) (id : Int) : 0 ≤ findIt l id ↔ id ∈ ids l := by
  rw [findIt, idxP_iff]
  simp [ids]
theorem nodup_take {l : List Item} {k : Nat} (hk : k < l.length) : (ids (l.take (k + 1))).Nodup ↔ (ids (l.take k)).Nodup ∧ l[k].id ∉ ids (l.take k) := by
  rw [List.take_succ_eq_append_getElem hk, ids, List.map_append, List.nodup_append]
  simp only [List.map_cons, List.map_nil, List.mem_singleton]
  constructor
  · rintro ⟨h1, _, h3⟩; exact ⟨h1, fun h => h3 _ h _ rfl rfl⟩
  · rintro ⟨h1, h2⟩; exact ⟨h1, by simp, fun a ha b hb hab => h2 (by rw [← hb, ← hab]; exact ha)⟩
theorem nodup_sub {l : List Item} {k : Nat} (h : (ids l).Nodup) : (ids (l.take k)).Nodup := by
  rw [ids, List.map_take]
  exact h.sublist (List.take_sublist _ _)
theorem clkCheck_pure : PureOk Try.prog 81 (argM (cAgg rClk) fun c => finM (some (.v (.int .i64 (clkCheck c))))) := by
  refine pure1 Try.func81 rfl ?_
  rintro c r hr
  simp only [Option.some.injEq] at hr
  subst hr
  refine body_gen (noOrc_ok.withP find_pure) fxMix (by kernel_rfl) (by simp [Try.ntmps81]) ?_
  intro C cP cI cN cD cF cA cR cL
  have cp0 := orcP find_pure (C := C) (by rw [cP]; rfl)
  replace cI : C.inl = fun _ => false := cI
  replace cR : C.rd = fun _ => none := cR
  replace cD : C.dyn = fun _ => [] := cD
  clear cP cN cF cA
  obtain ⟨l, h⟩ := c
  unfold clkCheck
  simp only
  by_cases h1 : 64 < l.length
  · have h1' : 64 < (l.length : Int) := by omega
    simp [Try.ntmps81, Try.results81, cSl, cp0, cI, cD, cR, rClk, Clk.row, h1, h1']
  · have h1' : ¬ 64 < (l.length : Int) := by omega
    have hwl : IntKind.i64.wrap ((l.length : Int) - 1) = (l.length : Int) - 1 := w64 (by omega) (by omega)
    have hmx : (if (l.length : Int) - 1 > 0 then (l.length : Int) - 1 else 0) = max 0 ((l.length : Int) - 1) := by omega
    have hmx2 : (if 0 < (l.length : Int) - 1 then (l.length : Int) - 1 else 0) = max 0 ((l.length : Int) - 1) := by omega
    have hmx3 : (if 1 < (l.length : Int) then (l.length : Int) - 1 else 0) = max 0 ((l.length : Int) - 1) := by omega
    have hmx4 : (if 1 < l.length then (l.length : Int) - 1 else 0) = max 0 ((l.length : Int) - 1) := by omega
    by_cases h2 : h < 0
    · simp [Try.ntmps81, Try.results81, cSl, cp0, cI, cD, cR, rClk, Clk.row, h1, h1', h2, hwl]
    · by_cases h3 : max 0 ((l.length : Int) - 1) < h
      · simp [Try.ntmps81, Try.results81, cSl, cp0, cI, cD, cR, rClk, Clk.row, h1, h1', h2, hwl, hmx, hmx2, hmx3, hmx4, h3]
      · simp [Try.ntmps81, Try.results81, cSl, cp0, cI, cD, cR, rClk, Clk.row, h1, h1', h2, hwl, hmx, hmx2, hmx3, hmx4, h3]
        refine loop_for l.length (fun k (_ : Unit) => ([(1, .ptr 0 2 0 0), (23, .fsl false 3 (l.map Item.row)), (24, .v (.int .i64 l.length)), (25, .v (.int .i64 k))], [some (2, [Clk.row ⟨l, h⟩])])) (fun k _ => (ids (l.take k)).Nodup) () (by omega) (by simp [ids]) (by simp [Clk.row]) ?_ ?_
        · rintro k _ hk hall hw
          have hl2 : (l.take k).length ≤ 4294967296 := by simp; omega
          have hkl : k ≤ l.length := by omega
          have hkk : k ≤ 4294967296 := by omega
          have hmn : min k l.length ≤ 4294967296 := by omega
          have hn := nodup_take hk
          by_cases q : l[k].id ∈ ids (l.take k)
          · have q1 := (findIt_iff (l.take k) l[k].id).2 q
            have q2 : ¬ (ids l).Nodup := fun h => (hn.1 (nodup_sub h)).2 q
            simp [Try.ntmps81, Try.results81, cSl, cp0, cI, cD, cR, rItem, Item.row, Clk.row, hk, hw, hl2, hkl, hkk, hmn, q1, q2]
          · have q1 : ¬ 0 ≤ findIt (l.take k) l[k].id := fun h => q ((findIt_iff _ _).1 h)
            have q3 := hn.2 ⟨hall, q⟩
            simp [Try.ntmps81, Try.results81, cSl, cp0, cI, cD, cR, rItem, Item.row, Clk.row, hk, hw, hl2, hkl, hkk, hmn, q1, q3]
        · rintro _ hall
          simp at hall
          simp [Try.ntmps81, Try.results81, cSl, cp0, cI, cD, cR, hall]
theorem clk_ok {c : Clk} : clkCheck c = 0 ↔ c.items.length ≤ 64 ∧ 0 ≤ c.hand ∧ c.hand ≤ max 0 ((c.items.length : Int) - 1) ∧ (ids c.items).Nodup := by
  unfold clkCheck
  split
  · simp; omega
  · split
    · simp; omega
    · split
      · rename_i h; simp [h]; omega
      · rename_i h; simp [h]
def clkE : Except Int Clk → AVal
  | .ok c => .tup [.agg c.hrow, .v (.int .i64 0)]
  | .error e => .v (.tuple #[.agg #[.slice none 0 0, .int .i64 0], .int .i64 e])
def clkPut (c : Clk) (id : Int) : Except Int Clk :=
  if clkCheck c = 0 then
    if id ∈ ids c.items then .error 5
    else if c.items.length = 64 then .error 6
    else .ok ⟨c.items.take c.hand.toNat ++ ⟨id, true, false⟩ :: c.items.drop c.hand.toNat, (c.hand + 1).tmod (c.items.length + 1)⟩
  else .error (clkCheck c)
theorem clkPut_pure : PureOk Try.prog 15 (argM (cAgg rClk) fun c => argM (cInt .i64) fun id => finM (some (clkE (clkPut c id)))) := by
  refine pure2 Try.func15 rfl ?_
  rintro c id r hr
  simp only [Option.some.injEq] at hr
  subst hr
  refine body_gen ((((((noOrc_ok.withP clkCheck_pure).withP find_pure).withIF itClone clone_loc).withIF itIns insert_loc).withD (fun i => if i = 8 then [(2,7),(2,4),(1,7),(4,7)] else [])).withA (fun i => if i = 8 then [0,1,3,4,5,6,7,2,8,9] else [])) fxMix (by kernel_rfl) (by simp [Try.ntmps15]) ?_
  intro C cP cI cN cD cF cA cR cL
  have cp0 := orcP clkCheck_pure (C := C) (by rw [cP]; rfl)
  have cp1 := orcP find_pure (C := C) (by rw [cP]; rfl)
  have cn0 := orcI itClone (C := C) (by rw [cN]; rfl)
  have cn1 := orcI itIns (C := C) (by rw [cN]; rfl)
  replace cI := fun g => congrFun cI g
  simp only [Orc.withP, Orc.withI, Orc.withF, Orc.withD, Orc.withA, Orc.withR, Orc.withC, noOrc] at cI
  replace cR : C.rd = fun _ => none := cR
  replace cD : C.dyn = fun i => if i = 8 then [(2,7),(2,4),(1,7),(4,7)] else [] := cD
  replace cF := fun g => congrFun cF g
  simp only [Orc.withP, Orc.withI, Orc.withF, Orc.withD, Orc.withA, Orc.withR, Orc.withC, noOrc] at cF
  replace cA : C.alt = fun i => if i = 8 then [0,1,3,4,5,6,7,2,8,9] else [] := cA
  have rg10 : List.range 10 = [0, 1, 2, 3, 4, 5, 6, 7, 8, 9] := rfl
  clear cP cN
  obtain ⟨l, h⟩ := c
  unfold clkPut
  simp only
  by_cases h0 : clkCheck ⟨l, h⟩ = 0
  · obtain ⟨g1, g2, g3, g4⟩ := clk_ok.1 h0
    simp only at g1 g2 g3 g4
    have hl2 : l.length ≤ 4294967296 := by omega
    have hl3 : l.length ≤ 1048576 := by omega
    by_cases h1 : id ∈ ids l
    · have h1' := (findIt_iff l id).2 h1
      simp [Try.ntmps15, Try.results15, cSl, cp0, cp1, cn0, cn1, cI, cD, cR, cF, cA, rg10, rClk, clkDec, rItem, Clk.row, h0, h1, h1', hl2, clkE]
    · have h1' : ¬ 0 ≤ findIt l id := fun h => h1 ((findIt_iff _ _).1 h)
      by_cases h2 : l.length = 64
      · have h2' : (l.length : Int) = 64 := by omega
        simp [Try.ntmps15, Try.results15, cSl, cp0, cp1, cn0, cn1, cI, cD, cR, cF, cA, rg10, rClk, clkDec, rItem, Clk.row, h0, h1, h1', h2, h2', hl2, clkE]
      · have h2' : ¬ (l.length : Int) = 64 := by omega
        obtain ⟨k, rfl⟩ := Int.eq_ofNat_of_zero_le g2
        have hw1 : IntKind.i64.wrap ((k : Int) + 1) = (k : Int) + 1 := w64 (by omega) (by omega)
        have hne : ¬ (l.length : Int) + 1 = 0 := by omega
        by_cases hn : l = []
        · subst hn
          have hk : k = 0 := by simp at g3; omega
          subst hk
          have h00 : clkCheck ⟨[], 0⟩ = 0 := rfl
          simp [Try.ntmps15, Try.results15, cSl, cp0, cp1, cn0, cn1, cI, cD, cR, cF, cA, rg10, rClk, clkDec, rItem, Clk.row, Clk.hrow, Item.row, h00, h1', clkE, cloneI, insertI, h1, hw1]
        · have hpos : 0 < l.length := List.length_pos_iff.2 hn
          have hk : k ≤ l.length := by omega
          have hh1 : l.length + 1 ≤ k + (l.length - k + 1) := by omega
          have hh2 : ∀ x : Row, List.take (l.length + 1) (List.take k (List.map Item.row l) ++ x :: List.drop k (List.map Item.row l)) = List.take k (List.map Item.row l) ++ x :: List.drop k (List.map Item.row l) := by
            intro x; apply List.take_of_length_le; simp; omega
          simp [Try.ntmps15, Try.results15, cSl, cp0, cp1, cn0, cn1, cI, cD, cR, cF, cA, rg10, hh1, hh2, rClk, clkDec, rItem, Clk.row, Clk.hrow, Item.row, h0, h1', h2, h2', clkE, cloneI, insertI, h1, hw1, hl2, hl3, hpos, hk, hn, hne]
  · simp [Try.ntmps15, Try.results15, cSl, cp0, cp1, cn0, cn1, cI, cD, cR, cF, cA, rg10, rClk, clkDec, rItem, Clk.row, h0, clkE]
end
end
section
set_option linter.unusedSimpArgs false
def mkI (x : Item) : Item := { x with used := x.used && x.pinned }
def freeI (x : Item) : Bool := !x.pinned && !x.used
def nextF : Nat → List Item → Nat → Nat → Option (List Item × Nat × Int × Nat)
  | 0, _, _, _ => none
  | f + 1, l, k, n => match l[k]? with
    | some x => if freeI x = true then some (l.eraseIdx k, k % max 1 (l.length - 1), x.id, n) else nextF f (l.set k (mkI x)) ((k + 1) % l.length) (n + 1)
    | none => none
/-- behind so many looks -/
def off (L h i : Nat) : Nat := (i + L - h) % L
def lookd (l : List Item) (h j : Nat) : List Item := l.mapIdx fun i x => if off l.length h i < j then mkI x else x
theorem lookd_len (l : List Item) (h j : Nat) : (lookd l h j).length = l.length := by simp [lookd]
theorem lookd_get {l : List Item} {h j i : Nat} (hi : i < l.length) : (lookd l h j)[i]? = some (if off l.length h i < j then mkI l[i] else l[i]) := by
  simp [lookd, List.getElem?_mapIdx, hi]
theorem off_at {L h j : Nat} (hL : h < L) : off L h ((h + j) % L) = j % L := by
  unfold off
  have h1 : (h + j) % L < L := Nat.mod_lt _ (by omega)
  have h2 : (h + j) % L + L - h = (h + j) % L + (L - h) := by omega
  rw [h2, Nat.mod_add_mod]
  have : h + j + (L - h) = j + L := by omega
  rw [this, Nat.add_mod_right]
theorem off_inj {L h i k : Nat} (hL : h < L) (hi : i < L) (hk : k < L) (e : off L h i = off L h k) : i = k := by
  unfold off at e
  have key : ∀ x, x < L → (x + L - h) % L = if h ≤ x then x - h else x + L - h := by
    intro x hx
    split
    · have : x + L - h = (x - h) + L := by omega
      rw [this, Nat.add_mod_right, Nat.mod_eq_of_lt (by omega)]
    · rw [Nat.mod_eq_of_lt (by omega)]
  rw [key i hi, key k hk] at e
  split at e <;> split at e <;> omega
theorem off_lt {L h i : Nat} (hL : h < L) : off L h i < L := Nat.mod_lt _ (by omega)
theorem at_off {L h i : Nat} (hL : h < L) (hi : i < L) : (h + off L h i) % L = i := by
  apply off_inj hL (Nat.mod_lt _ (by omega)) hi
  rw [off_at hL, Nat.mod_eq_of_lt (off_lt hL)]
theorem mkI_mkI (x : Item) : mkI (mkI x) = mkI x := by simp [mkI]
theorem mkI_free {x : Item} : freeI (mkI x) = !x.pinned := by
  simp [freeI, mkI]
  cases x.pinned <;> simp
theorem lookd_step {l : List Item} {h j : Nat} (hh : h < l.length) (x : Item) (hx : (lookd l h j)[(h + j) % l.length]? = some x) : (lookd l h j).set ((h + j) % l.length) (mkI x) = lookd l h (j + 1) := by
  have hp : (h + j) % l.length < l.length := Nat.mod_lt _ (by omega)
  rw [lookd_get hp] at hx
  simp only [Option.some.injEq] at hx
  apply List.ext_getElem?
  intro i
  by_cases hi : i < l.length
  · by_cases hip : i = (h + j) % l.length
    · subst hip
      rw [List.getElem?_set_self (by rw [lookd_len]; exact hp), lookd_get hp, off_at hh]
      have : j % l.length < j + 1 := by have := Nat.mod_le j l.length; omega
      rw [if_pos this, ← hx]
      split
      · rw [mkI_mkI]
      · rfl
    · rw [List.getElem?_set_ne (fun e => hip e.symm), lookd_get hi, lookd_get hi]
      have hne : off l.length h i ≠ j := by
        intro e
        apply hip
        apply off_inj hh hi hp
        rw [off_at hh, e, Nat.mod_eq_of_lt]
        rw [← e]; exact off_lt hh
      have e1 : off l.length h i < j + 1 ↔ off l.length h i < j := by omega
      simp only [e1]
  · rw [List.getElem?_eq_none (by simp [lookd_len]; omega), List.getElem?_eq_none (by simp [lookd_len]; omega)]
/-- who goes -/
structure Goes (l : List Item) (h j : Nat) : Prop where
  lt : j < 2 * l.length
  pin : ∀ x, l[(h + j) % l.length]? = some x → x.pinned = false ∧ (j < l.length → x.used = false)
  was1 : ∀ t x, t < j → t < l.length → l[(h + t) % l.length]? = some x → freeI x = false
  was2 : ∀ t x, t < j → l.length ≤ t → l[(h + t) % l.length]? = some x → x.pinned = true
theorem nextF_goes {l : List Item} {h : Nat} (hh : h < l.length) (hu : ∃ x ∈ l, x.pinned = false) : ∀ (m j : Nat), m + j = 2 * l.length → (∀ t x, t < j → t < l.length → l[(h + t) % l.length]? = some x → freeI x = false) → (∀ t x, t < j → l.length ≤ t → l[(h + t) % l.length]? = some x → x.pinned = true) →
    ∃ j', Goes l h j' ∧ ∀ x, l[(h + j') % l.length]? = some x → nextF m (lookd l h j) ((h + j) % l.length) (j + 1) = some ((lookd l h j').eraseIdx ((h + j') % l.length), (h + j') % l.length % max 1 (l.length - 1), x.id, j' + 1) := by
  intro m
  induction m with
  | zero =>
    intro j hj w1 w2
    exfalso
    obtain ⟨x, hx, hp⟩ := hu
    obtain ⟨i, hi, rfl⟩ := List.getElem_of_mem hx
    have hof := off_lt (i := i) hh
    have := w2 (off l.length h i + l.length) l[i] (by omega) (by omega) (by
      have e : (h + (off l.length h i + l.length)) % l.length = i := by
        rw [← Nat.add_assoc, Nat.add_mod_right, at_off hh hi]
      rw [e]; simp)
    rw [hp] at this
    cases this
  | succ m ih =>
    intro j hj w1 w2
    have hp : (h + j) % l.length < l.length := Nat.mod_lt _ (by omega)
    have hx : l[(h + j) % l.length]? = some l[(h + j) % l.length] := List.getElem?_eq_getElem hp
    have hlx := lookd_get (h := h) (j := j) hp
    rw [off_at hh] at hlx
    generalize hy : l[(h + j) % l.length] = y at *
    by_cases hjL : j < l.length
    · rw [Nat.mod_eq_of_lt hjL, if_neg (by omega)] at hlx
      simp only [nextF, hlx]
      by_cases hf : freeI y = true
      · refine ⟨j, ⟨by omega, fun x h2 => ?_, w1, w2⟩, fun x h2 => ?_⟩
        · rw [hx] at h2
          simp at h2
          subst h2
          simp [freeI] at hf
          exact ⟨hf.1, fun _ => hf.2⟩
        · rw [hx] at h2
          simp at h2
          subst h2
          rw [if_pos hf, lookd_len]
      · obtain ⟨j', g1, g2⟩ := ih (j + 1) (by omega) (fun t x h1 h2 h3 => by
          by_cases htj : t = j
          · subst htj; rw [hx] at h3; simp at h3; subst h3; simpa using hf
          · exact w1 t x (by omega) h2 h3) (fun t x h1 h2 h3 => w2 t x (by omega) h2 h3)
        refine ⟨j', g1, fun x h2 => ?_⟩
        rw [if_neg hf, lookd_len]
        have hst := lookd_step hh y hlx
        have e : ((h + j) % l.length + 1) % l.length = (h + (j + 1)) % l.length := by rw [Nat.mod_add_mod, Nat.add_assoc]
        rw [hst, e]
        exact g2 x h2
    · have hjm : j % l.length < j := by have := Nat.mod_lt j (by omega : 0 < l.length); omega
      rw [if_pos hjm] at hlx
      simp only [nextF, hlx]
      rw [mkI_free]
      by_cases hf : y.pinned = false
      · refine ⟨j, ⟨by omega, fun x h2 => ?_, w1, w2⟩, fun x h2 => ?_⟩
        · rw [hx] at h2
          simp at h2
          subst h2
          exact ⟨hf, fun h => absurd h hjL⟩
        · rw [hx] at h2
          simp at h2
          subst h2
          simp only [hf, Bool.not_false, if_true]
          rw [lookd_len]
          simp [mkI]
      · obtain ⟨j', g1, g2⟩ := ih (j + 1) (by omega) (fun t x h1 h2 h3 => w1 t x (by omega) h2 h3) (fun t x h1 h2 h3 => by
          by_cases htj : t = j
          · subst htj; rw [hx] at h3; simp at h3; subst h3; simpa using hf
          · exact w2 t x (by omega) h2 h3)
        refine ⟨j', g1, fun x h2 => ?_⟩
        simp at hf
        simp only [hf, Bool.not_true, Bool.false_eq_true, if_false]
        rw [lookd_len]
        have hst := lookd_step hh (mkI y) hlx
        have e : ((h + j) % l.length + 1) % l.length = (h + (j + 1)) % l.length := by rw [Nat.mod_add_mod, Nat.add_assoc]
        rw [hst, e]
        exact g2 x h2
theorem lookd_zero (l : List Item) (h : Nat) : lookd l h 0 = l := by
  unfold lookd
  apply List.ext_getElem? 
  intro i
  simp [List.getElem?_mapIdx]
theorem next_char {l : List Item} {h : Nat} (hh : h < l.length) (hu : ∃ x ∈ l, x.pinned = false) : ∃ j x, Goes l h j ∧ l[(h + j) % l.length]? = some x ∧ nextF (2 * l.length) l h 1 = some ((lookd l h j).eraseIdx ((h + j) % l.length), (h + j) % l.length % max 1 (l.length - 1), x.id, j + 1) := by
  obtain ⟨j, g1, g2⟩ := nextF_goes hh hu (2 * l.length) 0 (by omega) (fun t x h => by omega) (fun t x h => by omega)
  have hp : (h + j) % l.length < l.length := Nat.mod_lt _ (by omega)
  refine ⟨j, l[(h + j) % l.length], g1, by simp [hp], ?_⟩
  have := g2 _ (List.getElem?_eq_getElem hp)
  rwa [lookd_zero, Nat.add_zero, Nat.mod_eq_of_lt hh] at this
end
section
set_option maxHeartbeats 2000000
set_option maxRecDepth 100000
set_option linter.unusedSimpArgs false
set_option linter.unusedVariables false
attribute [local simp] wpA wpX RunA RunD runF foot footP footB idsA bare apart runL step1 gsel_f gsel_t gsel_s res_same res_and1 res_and2 res_and3 res_and4 res_and5 res_and6 res_false res_true res_v res_ptr res_fptr res_osl res_xsl soft aAppendZ aCap ovlI ovlJ res_fsl res_esl res_agg res_tup res_fn res_junk res_anyb aPick hk imp_left iteV dstOk guardOk astep astepE AI.ev AI.look AI.put envOf aBox cellsOf allOne allOneA oneA Value.oneCell' Value.cells newObj' aFieldAddr aLoad obj readAt thenA blockA condA retA resA tupA view hot hotC hotR depthV cAgg cInt cBool mkAgg allV aAlloc aBuild fillA writeAt aStore isAggA aField idx aIndexAddr aIndex bnd aSlice aExtract aLen aBuiltin aCall isStatic eqAgg eqTy eqC ev_add ev_sub ev_mul ev_quo ev_rem ev_and ev_or ev_xor ev_andNot ev_shl ev_shr ev_eql ev_neq ev_lss ev_leq ev_gtr ev_geq ev_agg w64 wu32 wu8 ev_not ev_neg Cod.plain RCod.plain argM finM cold coldC coldR goInt intDec boolDec aggDec Weaker heapW lowA lowC Again slDec undef aBuildSlice setRows aAppend rowsOf aMakeSlice aClear aCopy softer_self softer_nil valsOf ev_min2 ev_max2 hotR_set hotR_append take_map_set irow_cold irow_mapM irow_mapMc irow_view irow_viewc irow_hotR irow_ren irow_renc irow_low WeakT heapT thOf ren renC AgainT NextF NextT fnDec cFn rNil selfLt natLt0 natLt1 getLastMap frame0 frame1 own0 own1 argG finG tau tauI tauO tauC bareA bareC bareH irow_tau irow_tauc irow_bare irow_flat irow_bareR ownA_nil ownT_nil ownA_c ownT_c ownA_s ownT_s takeMapLen footC plainA noId noIdC cloneF frame0F frame1F insertF replaceI replaceF cellDec rCell fpDec cFp rTwo deleteF allV_oA oneA_oA res_oA RunR RunE runFT footAt hotR_cat tmodN aEqH aSliceA fxSz2 fxBy2 fxAg2 fxZe2 fxSl2 fxAr2 fxPl2 fxSz3 fxBy3 fxAg3 fxZe3 fxSl3 fxAr3 fxPl3 fxSz4 fxBy4 fxAg4 fxZe4 fxSl4 fxAr4 fxPl4 fxSz5 fxBy5 fxAg5 fxZe5 fxSl5 fxAr5 fxPl5 fxSz9 fxBy9 fxAg9 fxZe9 fxSl9 fxAr9 fxPl9 fxSz12 fxBy12 fxAg12 fxZe12 fxSl12 fxAr12 fxPl12 fxSz13 fxBy13 fxAg13 fxZe13 fxSl13 fxAr13 fxFi13x0 fxFi13x1 fxPl13 fxSz21 fxBy21 fxAg21 fxZe21 fxSl21 fxAr21 fxPl21 fxSz22 fxBy22 fxAg22 fxZe22 fxSl22 fxAr22 fxPl22 fxSz23 fxBy23 fxAg23 fxZe23 fxSl23 fxAr23 fxFi23x0 fxFi23x1 fxPl23 fxSz24 fxBy24 fxAg24 fxZe24 fxSl24 fxAr24 fxFi24x0 fxFi24x1 fxPl24 fxSz25 fxBy25 fxAg25 fxZe25 fxSl25 fxAr25 fxFi25x0 fxFi25x1 fxFi25x2 fxPl25 fxSz26 fxBy26 fxAg26 fxZe26 fxSl26 fxAr26 fxFi26x0 fxFi26x1 fxFi26x2 fxPl26 fxSz27 fxBy27 fxAg27 fxZe27 fxSl27 fxAr27 fxPl27 fxSz28 fxBy28 fxAg28 fxZe28 fxSl28 fxAr28 fxFi28x0 fxFi28x1 fxPl28 fxSz29 fxBy29 fxAg29 fxZe29 fxSl29 fxAr29 fxFi29x0 fxFi29x1 fxPl29 fxSz33 fxBy33 fxAg33 fxZe33 fxSl33 fxAr33 fxPl33 fxSz34 fxBy34 fxAg34 fxZe34 fxSl34 fxAr34 fxFi34x0 fxFi34x1 fxFi34x2 fxFi34x3 fxFi34x4 fxPl34 fxSz35 fxBy35 fxAg35 fxZe35 fxSl35 fxAr35 fxFi35x0 fxFi35x1 fxFi35x2 fxFi35x3 fxFi35x4 fxPl35 fxSz38 fxBy38 fxAg38 fxZe38 fxSl38 fxAr38 fxPl38 fxSz50 fxBy50 fxAg50 fxZe50 fxSl50 fxAr50 fxPl50 fxSz51 fxBy51 fxAg51 fxZe51 fxSl51 fxAr51 fxPl51 fxSz53 fxBy53 fxAg53 fxZe53 fxSl53 fxAr53 fxPl53 fxSz54 fxBy54 fxAg54 fxZe54 fxSl54 fxAr54 fxFi54x0 fxFi54x1 fxPl54 fxSz55 fxBy55 fxAg55 fxZe55 fxSl55 fxAr55 fxFi55x0 fxFi55x1 fxPl55 fxSz56 fxBy56 fxAg56 fxZe56 fxSl56 fxAr56 fxPl56 fxSz57 fxBy57 fxAg57 fxZe57 fxSl57 fxAr57 fxPl57 fxSz58 fxBy58 fxAg58 fxZe58 fxSl58 fxAr58 fxFi58x0 fxFi58x1 fxFi58x2 fxFi58x3 fxFi58x4 fxFi58x5 fxFi58x6 fxPl58 fxSz59 fxBy59 fxAg59 fxZe59 fxSl59 fxAr59 fxFi59x0 fxFi59x1 fxFi59x2 fxFi59x3 fxFi59x4 fxFi59x5 fxFi59x6 fxPl59 fxSz60 fxBy60 fxAg60 fxZe60 fxSl60 fxAr60 fxPl60 fxSz61 fxBy61 fxAg61 fxZe61 fxSl61 fxAr61 fxFi61x0 fxFi61x1 fxPl61 fxSz62 fxBy62 fxAg62 fxZe62 fxSl62 fxAr62 fxFi62x0 fxFi62x1 fxPl62 fxSz63 fxBy63 fxAg63 fxZe63 fxSl63 fxAr63 fxPl63 fxSz64 fxBy64 fxAg64 fxZe64 fxSl64 fxAr64 fxFi64x0 fxFi64x1 fxFi64x2 fxPl64 fxSz65 fxBy65 fxAg65 fxZe65 fxSl65 fxAr65 fxFi65x0 fxFi65x1 fxFi65x2 fxPl65 fxSz66 fxBy66 fxAg66 fxZe66 fxSl66 fxAr66 fxPl66 fxSz68 fxBy68 fxAg68 fxZe68 fxSl68 fxAr68 fxPl68 fxSz69 fxBy69 fxAg69 fxZe69 fxSl69 fxAr69 fxPl69 fxSz70 fxBy70 fxAg70 fxZe70 fxSl70 fxAr70 fxPl70 fxSz71 fxBy71 fxAg71 fxZe71 fxSl71 fxAr71 fxFi71x0 fxFi71x1 fxPl71 fxSz72 fxBy72 fxAg72 fxZe72 fxSl72 fxAr72 fxFi72x0 fxFi72x1 fxPl72 fxSz74 fxBy74 fxAg74 fxZe74 fxSl74 fxAr74 fxPl74 fxSz75 fxBy75 fxAg75 fxZe75 fxSl75 fxAr75 fxFi75x0 fxFi75x1 fxFi75x2 fxPl75 fxSz76 fxBy76 fxAg76 fxZe76 fxSl76 fxAr76 fxFi76x0 fxFi76x1 fxFi76x2 fxPl76 fxSz92 fxBy92 fxAg92 fxZe92 fxSl92 fxAr92 fxPl92 fxSz93 fxBy93 fxAg93 fxZe93 fxSl93 fxAr93 fxPl93 fxSz94 fxBy94 fxAg94 fxZe94 fxSl94 fxAr94 fxPl94 fxSz96 fxBy96 fxAg96 fxZe96 fxSl96 fxAr96 fxPl96 fxSz97 fxBy97 fxAg97 fxZe97 fxSl97 fxAr97 fxPl97 fxSz98 fxBy98 fxAg98 fxZe98 fxSl98 fxAr98 fxFi98x0 fxFi98x1 fxPl98 fxSz99 fxBy99 fxAg99 fxZe99 fxSl99 fxAr99 fxFi99x0 fxFi99x1 fxPl99 fxSz100 fxBy100 fxAg100 fxZe100 fxSl100 fxAr100 fxPl100 fxSz101 fxBy101 fxAg101 fxZe101 fxSl101 fxAr101 fxFi101x0 fxFi101x1 fxPl101 fxSz102 fxBy102 fxAg102 fxZe102 fxSl102 fxAr102 fxFi102x0 fxFi102x1 fxPl102 fxSz103 fxBy103 fxAg103 fxZe103 fxSl103 fxAr103 fxFi103x0 fxFi103x1 fxPl103 fxSz104 fxBy104 fxAg104 fxZe104 fxSl104 fxAr104 fxFi104x0 fxFi104x1 fxPl104 fxSz106 fxBy106 fxAg106 fxZe106 fxSl106 fxAr106 fxFi106x0 fxFi106x1 fxFi106x2 fxPl106 fxSz107 fxBy107 fxAg107 fxZe107 fxSl107 fxAr107 fxFi107x0 fxFi107x1 fxFi107x2 fxPl107 fxSz109 fxBy109 fxAg109 fxZe109 fxSl109 fxAr109 fxFi109x0 fxFi109x1 fxPl109 fxSz110 fxBy110 fxAg110 fxZe110 fxSl110 fxAr110 fxFi110x0 fxFi110x1 fxPl110 fxSz111 fxBy111 fxAg111 fxZe111 fxSl111 fxAr111 fxPl111 fxSz112 fxBy112 fxAg112 fxZe112 fxSl112 fxAr112 fxPl112 fxSz113 fxBy113 fxAg113 fxZe113 fxSl113 fxAr113 fxFi113x0 fxFi113x1 fxPl113 fxSz114 fxBy114 fxAg114 fxZe114 fxSl114 fxAr114 fxFi114x0 fxFi114x1 fxPl114 fxSz131 fxBy131 fxAg131 fxZe131 fxSl131 fxAr131 fxPl131 fxSz132 fxBy132 fxAg132 fxZe132 fxSl132 fxAr132 fxPl132 fxSz133 fxBy133 fxAg133 fxZe133 fxSl133 fxAr133 fxPl133 fxSz135 fxBy135 fxAg135 fxZe135 fxSl135 fxAr135 fxPl135 fxSz136 fxBy136 fxAg136 fxZe136 fxSl136 fxAr136 fxFi136x0 fxFi136x1 fxFi136x2 fxPl136 fxSz137 fxBy137 fxAg137 fxZe137 fxSl137 fxAr137 fxFi137x0 fxFi137x1 fxFi137x2 fxPl137 fxSz138 fxBy138 fxAg138 fxZe138 fxSl138 fxAr138 fxPl138 fxSz139 fxBy139 fxAg139 fxZe139 fxSl139 fxAr139 fxFi139x0 fxFi139x1 fxPl139 fxSz140 fxBy140 fxAg140 fxZe140 fxSl140 fxAr140 fxFi140x0 fxFi140x1 fxPl140 fxSz141 fxBy141 fxAg141 fxZe141 fxSl141 fxAr141 fxPl141 fxSz145 fxBy145 fxAg145 fxZe145 fxSl145 fxAr145 fxFi145x0 fxFi145x1 fxPl145 fxSz146 fxBy146 fxAg146 fxZe146 fxSl146 fxAr146 fxFi146x0 fxFi146x1 fxPl146 fxSz165 fxBy165 fxAg165 fxZe165 fxSl165 fxAr165 fxPl165 fxSz166 fxBy166 fxAg166 fxZe166 fxSl166 fxAr166 fxPl166 fxSz167 fxBy167 fxAg167 fxZe167 fxSl167 fxAr167 fxPl167 fxSz169 fxBy169 fxAg169 fxZe169 fxSl169 fxAr169 fxPl169 fxSz170 fxBy170 fxAg170 fxZe170 fxSl170 fxAr170 fxPl170 fxSz171 fxBy171 fxAg171 fxZe171 fxSl171 fxAr171 fxPl171 fxSz183 fxBy183 fxAg183 fxZe183 fxSl183 fxAr183 fxPl183 fxSz208 fxBy208 fxAg208 fxZe208 fxSl208 fxAr208 fxPl208 fxSz262 fxBy262 fxAg262 fxZe262 fxSl262 fxAr262 fxPl262 fxSz283 fxBy283 fxAg283 fxZe283 fxSl283 fxAr283 fxPl283 fxSz294 fxBy294 fxAg294 fxZe294 fxSl294 fxAr294 fxPl294 fxSz295 fxBy295 fxAg295 fxZe295 fxSl295 fxAr295 fxPl295 fxSz296 fxBy296 fxAg296 fxZe296 fxSl296 fxAr296 fxPl296 fxSz299 fxBy299 fxAg299 fxZe299 fxSl299 fxAr299 fxPl299 fxSz307 fxBy307 fxAg307 fxZe307 fxSl307 fxAr307 fxPl307 fxSz308 fxBy308 fxAg308 fxZe308 fxSl308 fxAr308 fxPl308 fxSz316 fxBy316 fxAg316 fxZe316 fxSl316 fxAr316 fxPl316 fxSz320 fxBy320 fxAg320 fxZe320 fxSl320 fxAr320 fxPl320 fxSz324 fxBy324 fxAg324 fxZe324 fxSl324 fxAr324 fxPl324 fxSz330 fxBy330 fxAg330 fxZe330 fxSl330 fxAr330 fxPl330 fxSz331 fxBy331 fxAg331 fxZe331 fxSl331 fxAr331 fxFi331x0 fxPl331 fxSz337 fxBy337 fxAg337 fxZe337 fxSl337 fxAr337 fxPl337 fxSz342 fxBy342 fxAg342 fxZe342 fxSl342 fxAr342 fxPl342 fxEq26 fxEq33 fxEq35 fxEq59 fxEq62 fxEq65 fxEq76 fxEq104 fxEq107 fxEq110 fxEq137 fxEq146 fxEq171 fxEq296 fxCv2x2 fxCv2x3 fxCv2x5 fxCv2x12 fxCv2x21 fxCv2x38 fxCv2x74 fxCv2x283 fxCv2x299 fxCv2x307 fxCv2x316 fxCv3x2 fxCv3x3 fxCv3x5 fxCv3x12 fxCv3x21 fxCv3x38 fxCv3x74 fxCv3x283 fxCv3x299 fxCv3x307 fxCv3x316 fxCv5x2 fxCv5x3 fxCv5x5 fxCv5x12 fxCv5x21 fxCv5x38 fxCv5x74 fxCv5x283 fxCv5x299 fxCv5x307 fxCv5x316 fxCv12x2 fxCv12x3 fxCv12x5 fxCv12x12 fxCv12x21 fxCv12x38 fxCv12x74 fxCv12x283 fxCv12x299 fxCv12x307 fxCv12x316 fxCv21x2 fxCv21x3 fxCv21x5 fxCv21x12 fxCv21x21 fxCv21x38 fxCv21x74 fxCv21x283 fxCv21x299 fxCv21x307 fxCv21x316 fxCv38x2 fxCv38x3 fxCv38x5 fxCv38x12 fxCv38x21 fxCv38x38 fxCv38x74 fxCv38x283 fxCv38x299 fxCv38x307 fxCv38x316 fxCv74x2 fxCv74x3 fxCv74x5 fxCv74x12 fxCv74x21 fxCv74x38 fxCv74x74 fxCv74x283 fxCv74x299 fxCv74x307 fxCv74x316 fxCv283x2 fxCv283x3 fxCv283x5 fxCv283x12 fxCv283x21 fxCv283x38 fxCv283x74 fxCv283x283 fxCv283x299 fxCv283x307 fxCv283x316 fxCv299x2 fxCv299x3 fxCv299x5 fxCv299x12 fxCv299x21 fxCv299x38 fxCv299x74 fxCv299x283 fxCv299x299 fxCv299x307 fxCv299x316 fxCv307x2 fxCv307x3 fxCv307x5 fxCv307x12 fxCv307x21 fxCv307x38 fxCv307x74 fxCv307x283 fxCv307x299 fxCv307x307 fxCv307x316 fxCv316x2 fxCv316x3 fxCv316x5 fxCv316x12 fxCv316x21 fxCv316x38 fxCv316x74 fxCv316x283 fxCv316x299 fxCv316x307 fxCv316x316 fxEb4 fxNb4 fxLt9 fxLn22 fxNe22 fxNn22 fxOe22 fxOn22 fxXe22 fxXn22 fxLn27 fxNe27 fxNn27 fxOe27 fxOn27 fxXe27 fxXn27 fxLn53 fxNe53 fxNn53 fxOe53 fxOn53 fxXe53 fxXn53 fxLn60 fxNe60 fxNn60 fxOe60 fxOn60 fxXe60 fxXn60 fxLn63 fxNe63 fxNn63 fxOe63 fxOn63 fxXe63 fxXn63 fxLn66 fxNe66 fxNn66 fxOe66 fxOn66 fxXe66 fxXn66 fxLn68 fxNe68 fxNn68 fxOe68 fxOn68 fxXe68 fxXn68 fxLn69 fxNe69 fxNn69 fxOe69 fxOn69 fxXe69 fxXn69 fxLn70 fxNe70 fxNn70 fxOe70 fxOn70 fxXe70 fxXn70 fxLn96 fxNe96 fxNn96 fxOe96 fxOn96 fxXe96 fxXn96 fxLn97 fxNe97 fxNn97 fxOe97 fxOn97 fxXe97 fxXn97 fxLn100 fxNe100 fxNn100 fxOe100 fxOn100 fxXe100 fxXn100 fxLn111 fxNe111 fxNn111 fxOe111 fxOn111 fxXe111 fxXn111 fxLn112 fxNe112 fxNn112 fxOe112 fxOn112 fxXe112 fxXn112 fxLn135 fxNe135 fxNn135 fxOe135 fxOn135 fxXe135 fxXn135 fxLn138 fxNe138 fxNn138 fxOe138 fxOn138 fxXe138 fxXn138 fxLn141 fxNe141 fxNn141 fxOe141 fxOn141 fxXe141 fxXn141 fxLn169 fxNe169 fxNn169 fxOe169 fxOn169 fxXe169 fxXn169 fxLn170 fxNe170 fxNn170 fxOe170 fxOn170 fxXe170 fxXn170 fxLn308 fxNe308 fxNn308 fxOe308 fxOn308 fxXe308 fxXn308 fxFn3 fxFm3 fxFb3 fxFi3 fxFj3 fxFn4 fxFm4 fxFb4 fxFi4 fxFj4 fxFn5 fxFm5 fxFb5 fxFi5 fxFj5 fxFn6 fxFm6 fxFb6 fxFi6 fxFj6 fxFn7 fxFm7 fxFb7 fxFi7 fxFj7 fxFn8 fxFm8 fxFb8 fxFi8 fxFj8 fxFn9 fxFm9 fxFb9 fxFi9 fxFj9 fxFn10 fxFm10 fxFb10 fxFi10 fxFj10 fxFn11 fxFm11 fxFb11 fxFi11 fxFj11 fxFn12 fxFm12 fxFb12 fxFi12 fxFj12 fxFn13 fxFm13 fxFb13 fxFi13 fxFj13 fxFn14 fxFm14 fxFb14 fxFi14 fxFj14 fxFn15 fxFm15 fxFb15 fxFi15 fxFj15 fxFn16 fxFm16 fxFb16 fxFi16 fxFj16 fxFn17 fxFm17 fxFb17 fxFi17 fxFj17 fxFn18 fxFm18 fxFb18 fxFi18 fxFj18 fxFn19 fxFm19 fxFb19 fxFi19 fxFj19 fxFn20 fxFm20 fxFb20 fxFi20 fxFj20 fxFn21 fxFm21 fxFb21 fxFi21 fxFj21 fxFn22 fxFm22 fxFb22 fxFi22 fxFj22 fxFn23 fxFm23 fxFb23 fxFi23 fxFj23 fxFn24 fxFm24 fxFb24 fxFi24 fxFj24 fxFn25 fxFm25 fxFb25 fxFi25 fxFj25 fxFn26 fxFm26 fxFb26 fxFi26 fxFj26 fxFn27 fxFm27 fxFb27 fxFi27 fxFj27 fxFn28 fxFm28 fxFb28 fxFi28 fxFj28 fxFn29 fxFm29 fxFb29 fxFi29 fxFj29 fxFn30 fxFm30 fxFb30 fxFi30 fxFj30 fxFn31 fxFm31 fxFb31 fxFi31 fxFj31 fxFn32 fxFm32 fxFb32 fxFi32 fxFj32 fxFn33 fxFm33 fxFb33 fxFi33 fxFj33 fxFn34 fxFm34 fxFb34 fxFi34 fxFj34 fxFn35 fxFm35 fxFb35 fxFi35 fxFj35 fxFn36 fxFm36 fxFb36 fxFi36 fxFj36 fxFn37 fxFm37 fxFb37 fxFi37 fxFj37 fxFn38 fxFm38 fxFb38 fxFi38 fxFj38 fxFn39 fxFm39 fxFb39 fxFi39 fxFj39 fxFn40 fxFm40 fxFb40 fxFi40 fxFj40 fxFn41 fxFm41 fxFb41 fxFi41 fxFj41 fxFn42 fxFm42 fxFb42 fxFi42 fxFj42 fxFn43 fxFm43 fxFb43 fxFi43 fxFj43 fxFn44 fxFm44 fxFb44 fxFi44 fxFj44 fxFn45 fxFm45 fxFb45 fxFi45 fxFj45 fxFn46 fxFm46 fxFb46 fxFi46 fxFj46 fxFn47 fxFm47 fxFb47 fxFi47 fxFj47 fxFn48 fxFm48 fxFb48 fxFi48 fxFj48 fxFn49 fxFm49 fxFb49 fxFi49 fxFj49 fxFn50 fxFm50 fxFb50 fxFi50 fxFj50 fxFn51 fxFm51 fxFb51 fxFi51 fxFj51 fxFn52 fxFm52 fxFb52 fxFi52 fxFj52 fxFn53 fxFm53 fxFb53 fxFi53 fxFj53 fxFn54 fxFm54 fxFb54 fxFi54 fxFj54 fxFn55 fxFm55 fxFb55 fxFi55 fxFj55 fxFn56 fxFm56 fxFb56 fxFi56 fxFj56 fxFn57 fxFm57 fxFb57 fxFi57 fxFj57 fxFn58 fxFm58 fxFb58 fxFi58 fxFj58 fxFn59 fxFm59 fxFb59 fxFi59 fxFj59 fxFn60 fxFm60 fxFb60 fxFi60 fxFj60 fxFn61 fxFm61 fxFb61 fxFi61 fxFj61 fxFn62 fxFm62 fxFb62 fxFi62 fxFj62 fxFn63 fxFm63 fxFb63 fxFi63 fxFj63 fxFn64 fxFm64 fxFb64 fxFi64 fxFj64 fxFn65 fxFm65 fxFb65 fxFi65 fxFj65 fxFn66 fxFm66 fxFb66 fxFi66 fxFj66 fxFn67 fxFm67 fxFb67 fxFi67 fxFj67 fxFn68 fxFm68 fxFb68 fxFi68 fxFj68 fxFn69 fxFm69 fxFb69 fxFi69 fxFj69 fxFn70 fxFm70 fxFb70 fxFi70 fxFj70 fxFn71 fxFm71 fxFb71 fxFi71 fxFj71 fxFn72 fxFm72 fxFb72 fxFi72 fxFj72 fxFn73 fxFm73 fxFb73 fxFi73 fxFj73 fxFn74 fxFm74 fxFb74 fxFi74 fxFj74 fxFn75 fxFm75 fxFb75 fxFi75 fxFj75 fxFn76 fxFm76 fxFb76 fxFi76 fxFj76 fxFn77 fxFm77 fxFb77 fxFi77 fxFj77 fxFn78 fxFm78 fxFb78 fxFi78 fxFj78 fxFn79 fxFm79 fxFb79 fxFi79 fxFj79 fxFn80 fxFm80 fxFb80 fxFi80 fxFj80 fxFn81 fxFm81 fxFb81 fxFi81 fxFj81 fxFn82 fxFm82 fxFb82 fxFi82 fxFj82 fxFn83 fxFm83 fxFb83 fxFi83 fxFj83 fxFn84 fxFm84 fxFb84 fxFi84 fxFj84 fxFn85 fxFm85 fxFb85 fxFi85 fxFj85 fxFn86 fxFm86 fxFb86 fxFi86 fxFj86 fxFn87 fxFm87 fxFb87 fxFi87 fxFj87 fxFn88 fxFm88 fxFb88 fxFi88 fxFj88 fxFn89 fxFm89 fxFb89 fxFi89 fxFj89 fxFn90 fxFm90 fxFb90 fxFi90 fxFj90 fxFn91 fxFm91 fxFb91 fxFi91 fxFj91 fxFn92 fxFm92 fxFb92 fxFi92 fxFj92 fxFn93 fxFm93 fxFb93 fxFi93 fxFj93 fxFn94 fxFm94 fxFb94 fxFi94 fxFj94 fxFn95 fxFm95 fxFb95 fxFi95 fxFj95 fxFn96 fxFm96 fxFb96 fxFi96 fxFj96 fxFn97 fxFm97 fxFb97 fxFi97 fxFj97 fxFn98 fxFm98 fxFb98 fxFi98 fxFj98 fxFn99 fxFm99 fxFb99 fxFi99 fxFj99 fxFn100 fxFm100 fxFb100 fxFi100 fxFj100 fxFn101 fxFm101 fxFb101 fxFi101 fxFj101 fxFn102 fxFm102 fxFb102 fxFi102 fxFj102 fxFn103 fxFm103 fxFb103 fxFi103 fxFj103 fxFn104 fxFm104 fxFb104 fxFi104 fxFj104 fxFn105 fxFm105 fxFb105 fxFi105 fxFj105 fxFn106 fxFm106 fxFb106 fxFi106 fxFj106 fxFn107 fxFm107 fxFb107 fxFi107 fxFj107 fxFn108 fxFm108 fxFb108 fxFi108 fxFj108 fxFn109 fxFm109 fxFb109 fxFi109 fxFj109 fxFn110 fxFm110 fxFb110 fxFi110 fxFj110 fxFn111 fxFm111 fxFb111 fxFi111 fxFj111 fxFn112 fxFm112 fxFb112 fxFi112 fxFj112 fxFn113 fxFm113 fxFb113 fxFi113 fxFj113 fxFn114 fxFm114 fxFb114 fxFi114 fxFj114 fxFn115 fxFm115 fxFb115 fxFi115 fxFj115 fxFn116 fxFm116 fxFb116 fxFi116 fxFj116 fxFn117 fxFm117 fxFb117 fxFi117 fxFj117 fxFn118 fxFm118 fxFb118 fxFi118 fxFj118 fxFn119 fxFm119 fxFb119 fxFi119 fxFj119 fxFn120 fxFm120 fxFb120 fxFi120 fxFj120 fxFn121 fxFm121 fxFb121 fxFi121 fxFj121 fxFn122 fxFm122 fxFb122 fxFi122 fxFj122 fxFn123 fxFm123 fxFb123 fxFi123 fxFj123 fxFn124 fxFm124 fxFb124 fxFi124 fxFj124 fxFn125 fxFm125 fxFb125 fxFi125 fxFj125 fxFn126 fxFm126 fxFb126 fxFi126 fxFj126 fxFn127 fxFm127 fxFb127 fxFi127 fxFj127 fxFn128 fxFm128 fxFb128 fxFi128 fxFj128 fxFn129 fxFm129 fxFb129 fxFi129 fxFj129 fxFn130 fxFm130 fxFb130 fxFi130 fxFj130 fxFn131 fxFm131 fxFb131 fxFi131 fxFj131 fxFn132 fxFm132 fxFb132 fxFi132 fxFj132 fxFn133 fxFm133 fxFb133 fxFi133 fxFj133 fxFn134 fxFm134 fxFb134 fxFi134 fxFj134 fxFn135 fxFm135 fxFb135 fxFi135 fxFj135 fxFn136 fxFm136 fxFb136 fxFi136 fxFj136 fxFn137 fxFm137 fxFb137 fxFi137 fxFj137 fxFn138 fxFm138 fxFb138 fxFi138 fxFj138 fxFn139 fxFm139 fxFb139 fxFi139 fxFj139 fxFn140 fxFm140 fxFb140 fxFi140 fxFj140 fxFn141 fxFm141 fxFb141 fxFi141 fxFj141 fxFn142 fxFm142 fxFb142 fxFi142 fxFj142 fxFn143 fxFm143 fxFb143 fxFi143 fxFj143 fxFn144 fxFm144 fxFb144 fxFi144 fxFj144 fxFn145 fxFm145 fxFb145 fxFi145 fxFj145 fxFn146 fxFm146 fxFb146 fxFi146 fxFj146 fxFn147 fxFm147 fxFb147 fxFi147 fxFj147 fxFn148 fxFm148 fxFb148 fxFi148 fxFj148 fxFn149 fxFm149 fxFb149 fxFi149 fxFj149 fxFn150 fxFm150 fxFb150 fxFi150 fxFj150 fxFn151 fxFm151 fxFb151 fxFi151 fxFj151 fxFn152 fxFm152 fxFb152 fxFi152 fxFj152 fxFn153 fxFm153 fxFb153 fxFi153 fxFj153 fxFn154 fxFm154 fxFb154 fxFi154 fxFj154 fxFn155 fxFm155 fxFb155 fxFi155 fxFj155 fxFn156 fxFm156 fxFn157 fxFm157 fxFb157 fxFi157 fxFj157 fxFn158 fxFm158 fxFb158 fxFi158 fxFj158 fxFn159 fxFm159 fxFb159 fxFi159 fxFj159 fxFn160 fxFm160 fxFb160 fxFi160 fxFj160 fxFn161 fxFm161 fxFn162 fxFm162 fxFb162 fxFi162 fxFj162 fxFn163 fxFm163 fxFb163 fxFi163 fxFj163 fxFn164 fxFm164 fxFb164 fxFi164 fxFj164 fxFn165 fxFm165 fxFb165 fxFi165 fxFj165 fxFn166 fxFm166 fxFb166 fxFi166 fxFj166 fxFn167 fxFm167 fxFb167 fxFi167 fxFj167 fxFn168 fxFm168 fxFb168 fxFi168 fxFj168 fxFn169 fxFm169 fxFb169 fxFi169 fxFj169 fxFn170 fxFm170 fxFb170 fxFi170 fxFj170 fxFn171 fxFm171 fxFb171 fxFi171 fxFj171 fxFn172 fxFm172 fxFb172 fxFi172 fxFj172 fxFn173 fxFm173 fxFn174 fxFm174 fxFb174 fxFi174 fxFj174 fxFn175 fxFm175 fxFb175 fxFi175 fxFj175 fxFn176 fxFm176 fxFb176 fxFi176 fxFj176 fxFn177 fxFm177 fxFb177 fxFi177 fxFj177 fxFn178 fxFm178 fxFb178 fxFi178 fxFj178 fxFn179 fxFm179 fxFb179 fxFi179 fxFj179 fxFn180 fxFm180 fxFn181 fxFm181 fxFb181 fxFi181 fxFj181 fxFn182 fxFm182 fxFb182 fxFi182 fxFj182 fxFn183 fxFm183 fxFn184 fxFm184 fxFb184 fxFi184 fxFj184 fxFn185 fxFm185 fxFb185 fxFi185 fxFj185 fxFn186 fxFm186 fxFb186 fxFi186 fxFj186 fxFn187 fxFm187 fxFb187 fxFi187 fxFj187 fxFn188 fxFm188 fxFb188 fxFi188 fxFj188 fxFn189 fxFm189 fxFb189 fxFi189 fxFj189 fxFn190 fxFm190 fxFb190 fxFi190 fxFj190 fxFn191 fxFm191 fxFn192 fxFm192 fxFb192 fxFi192 fxFj192 fxFn193 fxFm193 fxFb193 fxFi193 fxFj193 fxFn194 fxFm194 fxFb194 fxFi194 fxFj194 fxFn195 fxFm195 fxFb195 fxFi195 fxFj195 fxFn196 fxFm196 fxFb196 fxFi196 fxFj196 fxFn197 fxFm197 fxFb197 fxFi197 fxFj197 fxFn198 fxFm198 fxFb198 fxFi198 fxFj198 fxFn199 fxFm199 fxFb199 fxFi199 fxFj199 fxFn200 fxFm200 fxFb200 fxFi200 fxFj200 fxFn201 fxFm201 fxFn202 fxFm202 fxFb202 fxFi202 fxFj202 fxFn203 fxFm203 fxFb203 fxFi203 fxFj203 fxFn204 fxFm204 fxFb204 fxFi204 fxFj204 fxFn205 fxFm205 fxFb205 fxFi205 fxFj205 fxFn206 fxFm206 fxFb206 fxFi206 fxFj206 fxFn207 fxFm207 fxFb207 fxFi207 fxFj207 fxFn208 fxFm208 fxFb208 fxFi208 fxFj208 fxFn209 fxFm209 fxFb209 fxFi209 fxFj209 fxFn210 fxFm210 fxFb210 fxFi210 fxFj210 fxFn211 fxFm211 fxFb211 fxFi211 fxFj211 fxFn212 fxFm212 fxFb212 fxFi212 fxFj212 fxFn213 fxFm213 fxFb213 fxFi213 fxFj213 fxFn214 fxFm214 fxFb214 fxFi214 fxFj214 fxFn215 fxFm215 fxFb215 fxFi215 fxFj215 fxFn216 fxFm216 fxFb216 fxFi216 fxFj216 fxFn217 fxFm217 fxFb217 fxFi217 fxFj217 fxFn218 fxFm218 fxFb218 fxFi218 fxFj218 fxFn219 fxFm219 fxFb219 fxFi219 fxFj219 fxFn220 fxFm220 fxFb220 fxFi220 fxFj220 fxFn221 fxFm221 fxFb221 fxFi221 fxFj221 fxFn222 fxFm222 fxFb222 fxFi222 fxFj222 fxFn223 fxFm223 fxFb223 fxFi223 fxFj223 fxFn224 fxFm224 fxFb224 fxFi224 fxFj224 fxFn225 fxFm225 fxFb225 fxFi225 fxFj225 fxFn226 fxFm226 fxFb226 fxFi226 fxFj226 fxFn227 fxFm227 fxFb227 fxFi227 fxFj227 fxFn228 fxFm228 fxFb228 fxFi228 fxFj228 fxFn229 fxFm229 fxFb229 fxFi229 fxFj229 fxFn230 fxFm230 fxFb230 fxFi230 fxFj230 fxFn231 fxFm231 fxFb231 fxFi231 fxFj231 fxFn232 fxFm232 fxFb232 fxFi232 fxFj232 fxFn233 fxFm233 fxFb233 fxFi233 fxFj233 fxFn234 fxFm234 fxFb234 fxFi234 fxFj234
section
attribute [local simp] Item.eta Item.cold Item.mapM Item.mapMc Item.view Item.viewc Item.hotR Item.ren Item.renc Item.low Item.tau Item.tauc Item.bare Item.flat Item.flat1 Item.mapMt Item.mapMd Item.coldt Item.coldd Item.hotRt Item.hotRd
attribute [local simp] Clk.eta Clk.dec_row Clk.dec_hrow Clk.cold Clk.hcold Clk.mapM Clk.mapMc Clk.hmapM Clk.hmapMc Clk.view Clk.viewc Clk.hview Clk.hviewc Clk.hotR Clk.ren Clk.renc Clk.low Clk.hlow
theorem nx1_pure : PureOk Try.prog 85 (argM (cAgg rItem) fun x => finM (some (.v (.bool !x.pinned)))) := by
  refine pure1 Try.func85 rfl ?_
  rintro x r hr
  simp only [Option.some.injEq] at hr
  subst hr
  refine body_gen noOrc_ok fxMix (by kernel_rfl) (by simp [Try.ntmps85]) ?_
  intro C cP cI cN cD cF cA cR cL
  replace cI : C.inl = fun _ => false := cI
  replace cR : C.rd = fun _ => none := cR
  replace cD : C.dyn = fun _ => [] := cD
  clear cP cN cF cA
  simp [Try.ntmps85, Try.results85, cSl, cI, cD, cR, rItem, Item.row, itemDec]
theorem nxIdx_pure : PureOk Try.prog 154 (argM (cSl rItem) fun l => argM (cFn 85 rNil) fun cp => finM (if l.length ≤ 4294967296 then some (.v (.int .i64 (idxP ((fun x => !x.pinned)) l))) else none)) := by
  refine pure2 Try.func154 rfl ?_
  rintro l cp r hr
  by_cases hc : l.length ≤ 4294967296
  case neg => rw [if_neg hc] at hr; cases hr
  rw [if_pos hc] at hr
  simp only [Option.some.injEq] at hr
  subst hr
  refine body_gen (noOrc_ok.withP nx1_pure) fxMix (by kernel_rfl) (by simp [Try.ntmps154]) ?_
  intro C cP cI cN cD cF cA cR cL
  have cp0 := orcP nx1_pure (C := C) (by rw [cP]; rfl)
  replace cI : C.inl = fun _ => false := cI
  replace cR : C.rd = fun _ => none := cR
  replace cD : C.dyn = fun _ => [] := cD
  clear cP cN cF cA
  simp [Try.ntmps154, Try.results154, cSl, cp0, cI, cD, cR, rItem, Item.row, itemDec]
  refine loop_for l.length (fun k (_ : Unit) => ([(0, .fsl false 3 (l.map Item.row)), (1, .fn 85 []), (7, .v (.int .i64 l.length)), (8, .v (.int .i64 k))], [])) (fun k _ => ((l.drop k).findIdx? ((fun x => !x.pinned))).map (· + k) = l.findIdx? ((fun x => !x.pinned))) () hc (by simp) (by simp [rItem, Item.row, itemDec]) ?_ ?_
  · intro k _ hk hall hw
    by_cases q : ((fun x => !x.pinned)) l[k] = true
    · rw [find_drop hk, if_pos q] at hall
      try simp at q
      simp [Try.ntmps154, Try.results154, cSl, cp0, cI, cD, cR, hk, hw, rItem, Item.row, itemDec, q, idxP, ← hall]
    · rw [find_drop hk, if_neg q] at hall
      try simp at q
      simp [Try.ntmps154, Try.results154, cSl, cp0, cI, cD, cR, hk, hw, rItem, Item.row, itemDec, q]
      simpa using hall
  · intro _ hall
    simp at hall
    simp [Try.ntmps154, Try.results154, cSl, cp0, cI, cD, cR, idxP, ← hall]
theorem nxAny_pure : PureOk Try.prog 84 (argM (cSl rItem) fun l => argM (cFn 85 rNil) fun cp => finM (if l.length ≤ 4294967296 then some (.v (.bool (l.any ((fun x => !x.pinned))))) else none)) := by
  refine pure2 Try.func84 rfl ?_
  rintro l cp r hr
  by_cases hc : l.length ≤ 4294967296
  case neg => rw [if_neg hc] at hr; cases hr
  rw [if_pos hc] at hr
  simp only [Option.some.injEq] at hr
  subst hr
  refine body_gen (noOrc_ok.withP nxIdx_pure) fxMix (by kernel_rfl) (by simp [Try.ntmps84]) ?_
  intro C cP cI cN cD cF cA cR cL
  have cp0 := orcP nxIdx_pure (C := C) (by rw [cP]; rfl)
  replace cI : C.inl = fun _ => false := cI
  replace cR : C.rd = fun _ => none := cR
  replace cD : C.dyn = fun _ => [] := cD
  clear cP cN cF cA
  simp [Try.ntmps84, Try.results84, cSl, cp0, cI, cD, cR, hc, idxP_iff, rItem] <;> (rw [Bool.eq_iff_iff]; simp)
def clkNext (c : Clk) : Except Int (Clk × Int × Int) :=
  if clkCheck c = 0 then
    if (c.items.any fun x => !x.pinned) = true then
      match nextF (2 * c.items.length) c.items c.hand.toNat 1 with
      | some (l, k, id, n) => .ok (⟨l, k⟩, id, n)
      | none => .error 6
    else .error 6
  else .error (clkCheck c)
def nextE : Except Int (Clk × Int × Int) → AVal
  | .ok (c, id, n) => .tup [.agg c.hrow, .v (.int .i64 id), .v (.int .i64 n), .v (.int .i64 0)]
  | .error e => .v (.tuple #[.agg #[.slice none 0 0, .int .i64 0], .int .i64 0, .int .i64 0, .int .i64 e])
theorem clkNext_pure : PureOk Try.prog 17 (argM (cAgg rClk) fun c => finM (some (nextE (clkNext c)))) := by
  refine pure1 Try.func17 rfl ?_
  rintro c r hr
  simp only [Option.some.injEq] at hr
  subst hr
  refine body_gen (((((noOrc_ok.withP clkCheck_pure).withP nxAny_pure).withIF itClone clone_loc).withIF itDel delete_loc).withD (fun i => if i = 6 then [(2,4)] else [])) fxMix (by kernel_rfl) (by simp [Try.ntmps17]) ?_
  intro C cP cI cN cD cF cA cR cL
  have cp0 := orcP clkCheck_pure (C := C) (by rw [cP]; rfl)
  have cp1 := orcP nxAny_pure (C := C) (by rw [cP]; rfl)
  have cn0 := orcI itClone (C := C) (by rw [cN]; rfl)
  have cn1 := orcI itDel (C := C) (by rw [cN]; rfl)
  replace cI := fun g => congrFun cI g
  simp only [Orc.withP, Orc.withI, Orc.withF, Orc.withD, Orc.withA, Orc.withR, Orc.withC, noOrc] at cI
  replace cR : C.rd = fun _ => none := cR
  replace cD : C.dyn = fun i => if i = 6 then [(2,4)] else [] := cD
  replace cF := fun g => congrFun cF g
  simp only [Orc.withP, Orc.withI, Orc.withF, Orc.withD, Orc.withA, Orc.withR, Orc.withC, noOrc] at cF
  replace cA : C.alt = fun _ => [] := cA
  clear cP cN
  obtain ⟨l0, h⟩ := c
  unfold clkNext
  simp only
  by_cases h0 : clkCheck ⟨l0, h⟩ = 0
  · obtain ⟨g1, g2, g3, g4⟩ := clk_ok.1 h0
    simp only at g1 g2 g3 g4
    have hl2 : l0.length ≤ 4294967296 := by omega
    by_cases h1 : (l0.any fun x => !x.pinned) = true
    · have hu : ∃ x ∈ l0, x.pinned = false := by simpa using h1
      have hpos : 0 < l0.length := by obtain ⟨x, hx, _⟩ := hu; exact List.length_pos_of_mem hx
      have hne : ¬ l0 = [] := List.length_pos_iff.1 hpos
      obtain ⟨k0, rfl⟩ := Int.eq_ofNat_of_zero_le g2
      obtain ⟨jj, xx, hg, hx, hr⟩ := next_char (h := k0) (by omega) hu
      rw [if_pos h0, if_pos h1, Int.toNat_natCast, hr]
      generalize (lookd l0 k0 jj).eraseIdx ((k0 + jj) % l0.length) = R1 at *
      generalize (k0 + jj) % l0.length % max 1 (l0.length - 1) = R2 at *
      generalize jj + 1 = R4 at *
      generalize xx.id = R3 at *
      simp [Try.ntmps17, Try.results17, cSl, cp0, cp1, cn0, cn1, cI, cD, cR, cF, cA, rClk, clkDec, rItem, Clk.row, h0, h1, hl2, cloneI, hne]
      refine loop_inv (σ := {p : Nat × List Item × Nat × Nat // nextF p.1 p.2.1 p.2.2.1 p.2.2.2 = some (R1, R2, R3, R4) ∧ p.2.2.1 < p.2.1.length ∧ p.2.1.length = l0.length ∧ p.2.2.2 + p.1 ≤ 1000}) (fun p => ([(2, .ptr 1 2 0 0), (7, .osl 2 3 0 l0.length l0.length), (8, .v (.int .i64 p.val.2.2.1)), (9, .v (.int .i64 p.val.2.2.2))], [none, some (2, [[.v (.slice none 0 0), .v (.int .i64 0)]]), some (3, p.val.2.1.map Item.row)])) (fun p => p.val.1) ⟨(2 * l0.length, l0, k0, 1), hr, by simp; omega, rfl, by simp; omega⟩ (by simp) ?_
      rintro ⟨⟨f, l, k, n⟩, i1, i2, i3, i4⟩
      simp only at i1 i2 i3 i4 ⊢
      cases f with
      | zero => simp [nextF] at i1
      | succ f =>
        have hgk : l[k]? = some l[k] := List.getElem?_eq_getElem i2
        simp only [nextF, hgk] at i1
        have hkl : k < l0.length := by omega
        have hw1 : IntKind.i64.wrap ((k : Int) + 1) = (k : Int) + 1 := w64 (by omega) (by omega)
        have hw2 : IntKind.i64.wrap ((n : Int) + 1) = (n : Int) + 1 := w64 (by omega) (by omega)
        have hl3 : l0.length ≤ 1048576 := by omega
        by_cases hf : freeI l[k] = true
        · rw [if_pos hf] at i1
          simp at i1
          obtain ⟨e1, e2, e3, e4⟩ := i1
          simp [freeI] at hf
          have hmx : (if 1 < ((l0.length - 1 : Nat) : Int) then ((l0.length - 1 : Nat) : Int) else 1) = ((max 1 (l0.length - 1) : Nat) : Int) := by omega
          have hmx2 : (if ((l0.length - 1 : Nat) : Int) > 1 then ((l0.length - 1 : Nat) : Int) else 1) = ((max 1 (l0.length - 1) : Nat) : Int) := by omega
          have hmx3 : (if 1 < l0.length - 1 then ((l0.length - 1 : Nat) : Int) else 1) = ((max 1 (l0.length - 1) : Nat) : Int) := by omega
          have hmx4 : ¬ ((max 1 (l0.length - 1) : Nat) : Int) = 0 := by omega
          have hmx5 : ¬ (max 1 (l0.length - 1) : Nat) = 0 := by omega
          have her : (l.map Item.row).eraseIdx k = R1.map Item.row := by rw [← e1, List.eraseIdx_eq_take_drop_succ, List.eraseIdx_eq_take_drop_succ]; simp
          have hln : R1.length = l0.length - 1 := by rw [← e1, List.length_eraseIdx, if_pos i2, i3]
          have hln2 : l0.length ≤ R1.length + 1 := by omega
          have htk : List.take (l0.length - 1) (R1.map Item.row) = R1.map Item.row := by rw [← hln]; exact takeMapLen
          rw [i3] at e2
          have e2' : (k : Int) % ((max 1 (l0.length - 1) : Nat) : Int) = (R2 : Int) := by rw [← e2]; simp
          simp [Try.ntmps17, Try.results17, cSl, cp0, cp1, cn0, cn1, cI, cD, cR, cF, cA, i2, i3, hkl, hf, deleteI, Item.row, hw1, hl3, hmx, hmx2, hmx3, hmx4, hmx5, nextE, Clk.hrow, her, hln2, htk, e2', e3, e4]
        · rw [if_neg hf] at i1
          have hne2 : ¬ (l0.length : Int) = 0 := by omega
          have hf2 : l[k].pinned = true ∨ l[k].used = true := by
            simp [freeI] at hf
            cases hp : l[k].pinned
            · right; exact hf hp
            · left; rfl
          rw [i3] at i1
          have hm : Int.tmod ((k : Int) + 1) (l0.length : Int) = (((k + 1) % l0.length : Nat) : Int) := rfl
          have hml : (k + 1) % l0.length < l0.length := Nat.mod_lt _ hpos
          have key : ∀ u : Bool, u = (mkI l[k]).used → (l.map Item.row).set k [.v (.int .i64 l[k].id), .v (.bool u), .v (.bool l[k].pinned)] = (l.set k (mkI l[k])).map Item.row := by
            intro u hu
            rw [List.map_set]
            congr 1
            simp [Item.row, hu, mkI]
          by_cases hp : l[k].pinned = true
          · by_cases hu2 : l[k].used = true
            · have hrow := key true (by simp [mkI, hp, hu2])
              rw [hp] at hrow
              simp [Try.ntmps17, Try.results17, cSl, cp0, cp1, cn0, cn1, cI, cD, cR, cF, cA, i2, i3, hkl, Item.row, hw1, hw2, hp, hu2, hne, hm, hrow]
              exact ⟨f, by omega, l.set k (mkI l[k]), (k + 1) % l0.length, n + 1, by simp, ⟨i1, by simp [i3, hml], by simp [i3], by omega⟩, by simp [Item.row, mkI, hp, hu2]⟩
            · have hrow := key false (by simp [mkI, hu2])
              rw [hp] at hrow
              simp [Try.ntmps17, Try.results17, cSl, cp0, cp1, cn0, cn1, cI, cD, cR, cF, cA, i2, i3, hkl, Item.row, hw1, hw2, hp, hu2, hne, hm, hrow]
              exact ⟨f, by omega, l.set k (mkI l[k]), (k + 1) % l0.length, n + 1, by simp, ⟨i1, by simp [i3, hml], by simp [i3], by omega⟩, by simp [Item.row, mkI, hp, hu2]⟩
          · have hu2 : l[k].used = true := hf2.resolve_left hp
            simp at hp
            have hrow := key false (by simp [mkI, hp])
            rw [hp] at hrow
            simp [Try.ntmps17, Try.results17, cSl, cp0, cp1, cn0, cn1, cI, cD, cR, cF, cA, i2, i3, hkl, Item.row, hw1, hw2, hp, hu2, hne, hm, hrow]
            exact ⟨f, by omega, l.set k (mkI l[k]), (k + 1) % l0.length, n + 1, by simp, ⟨i1, by simp [i3, hml], by simp [i3], by omega⟩, by simp [Item.row, mkI, hp, hu2]⟩
    · have h1' : (l0.any fun x => !x.pinned) = false := by simpa only [Bool.not_eq_true] using h1
      simp [Try.ntmps17, Try.results17, cSl, cp0, cp1, cn0, cn1, cI, cD, cR, cF, cA, rClk, clkDec, rItem, Clk.row, h0, h1', hl2, nextE]
  · simp [Try.ntmps17, Try.results17, cSl, cp0, cp1, cn0, cn1, cI, cD, cR, cF, cA, rClk, clkDec, rItem, Clk.row, h0, nextE]
end
section
attribute [local simp] Item.eta Item.cold Item.mapM Item.mapMc Item.view Item.viewc Item.hotR Item.ren Item.renc Item.low Item.tau Item.tauc Item.bare Item.flat Item.flat1 Item.mapMt Item.mapMd Item.coldt Item.coldd Item.hotRt Item.hotRd
attribute [local simp] Clk.eta Clk.dec_row Clk.dec_hrow Clk.cold Clk.hcold Clk.mapM Clk.mapMc Clk.hmapM Clk.hmapMc Clk.view Clk.viewc Clk.hview Clk.hviewc Clk.hotR Clk.ren Clk.renc Clk.low Clk.hlow
attribute [local simp] okL_tau okL_bare okL_allV okL_one okL_res
def clkX : Except Int Clk → Bool × List Item × Int × Int
  | .ok c => (true, c.items, c.hand, 0)
  | .error e => (false, [], 0, e)
def clkU (q : Bool × List Item × Int × Int) : AVal × Heap := (.tup [.agg [okL q.1 0 3 q.2.1.length, .v (.int .i64 q.2.2.1)], .v (.int .i64 q.2.2.2)], [okO q.1 3 (q.2.1.map Item.row)])
def nextX : Except Int (Clk × Int × Int) → Bool × List Item × Int × Int × Int × Int
  | .ok (c, id, n) => (true, c.items, c.hand, id, n, 0)
  | .error e => (false, [], 0, 0, 0, e)
def nextU (q : Bool × List Item × Int × Int × Int × Int) : AVal × Heap := (.tup [.agg [okL q.1 0 3 q.2.1.length, .v (.int .i64 q.2.2.1)], .v (.int .i64 q.2.2.2.1), .v (.int .i64 q.2.2.2.2.1), .v (.int .i64 q.2.2.2.2.2)], [okO q.1 3 (q.2.1.map Item.row)])
theorem agg_err : Lss (.v (.agg #[.slice none 0 0, .int .i64 0])) (.agg [.esl, .v (.int .i64 0)]) :=
  (Lss.vals (vs := [.slice none 0 0, .int .i64 0]) rfl (fun j v r hv hr => by
    match j, hv, hr with
    | 0, hv, hr => simp at hv hr; subst hv hr; exact @Lss.nil_esl'
    | 1, hv, hr => simp at hv hr; subst hv hr; exact @Lss.refl _
    | j + 2, hv, hr => simp at hv)).2
theorem clk_err {e : Int} : Lss (.v (.tuple #[.agg #[.slice none 0 0, .int .i64 0], .int .i64 e])) (.tup [.agg [.esl, .v (.int .i64 0)], .v (.int .i64 e)]) :=
  (Lss.vals (vs := [.agg #[.slice none 0 0, .int .i64 0], .int .i64 e]) rfl (fun j v r hv hr => by
    match j, hv, hr with
    | 0, hv, hr => simp at hv hr; subst hv hr; exact @agg_err
    | 1, hv, hr => simp at hv hr; subst hv hr; exact @Lss.refl _
    | j + 2, hv, hr => simp at hv)).1
theorem next_err {a b e : Int} : Lss (.v (.tuple #[.agg #[.slice none 0 0, .int .i64 0], .int .i64 a, .int .i64 b, .int .i64 e])) (.tup [.agg [.esl, .v (.int .i64 0)], .v (.int .i64 a), .v (.int .i64 b), .v (.int .i64 e)]) :=
  (Lss.vals (vs := [.agg #[.slice none 0 0, .int .i64 0], .int .i64 a, .int .i64 b, .int .i64 e]) rfl (fun j v r hv hr => by
    match j, hv, hr with
    | 0, hv, hr => simp at hv hr; subst hv hr; exact @agg_err
    | 1, hv, hr => simp at hv hr; subst hv hr; exact @Lss.refl _
    | 2, hv, hr => simp at hv hr; subst hv hr; exact @Lss.refl _
    | 3, hv, hr => simp at hv hr; subst hv hr; exact @Lss.refl _
    | j + 4, hv, hr => simp at hv)).1
theorem clkPut_own : InlOk Try.prog 15 (own0 (argG (cAgg rClk) fun c => argG (cInt .i64) fun id => finG (some (clkU (clkX (clkPut c id)))))) := by
  refine ownE_2 Try.func15 rfl ?_
  rintro c id r H' hr
  simp only [Option.some.injEq, Prod.mk.injEq] at hr
  obtain ⟨rfl, rfl⟩ := hr
  refine bodyE_of ((((((noOrc_ok.withP clkCheck_pure).withP find_pure).withIF itClone clone_loc).withIF itIns insert_loc).withD (fun i => if i = 8 then [(2,7),(2,4),(1,7),(4,7)] else [])).withA (fun i => if i = 8 then [0,1,3,4,5,6,7,2,8,9] else [])) fxMix (by kernel_rfl) (by simp [Try.ntmps15]) ?_
  intro C cP cI cN cD cF cA cR cL
  have cp0 := orcP clkCheck_pure (C := C) (by rw [cP]; rfl)
  have cp1 := orcP find_pure (C := C) (by rw [cP]; rfl)
  have cn0 := orcI itClone (C := C) (by rw [cN]; rfl)
  have cn1 := orcI itIns (C := C) (by rw [cN]; rfl)
  replace cI := fun g => congrFun cI g
  simp only [Orc.withP, Orc.withI, Orc.withF, Orc.withD, Orc.withA, Orc.withR, Orc.withC, noOrc] at cI
  replace cR : C.rd = fun _ => none := cR
  replace cD : C.dyn = fun i => if i = 8 then [(2,7),(2,4),(1,7),(4,7)] else [] := cD
  replace cF := fun g => congrFun cF g
  simp only [Orc.withP, Orc.withI, Orc.withF, Orc.withD, Orc.withA, Orc.withR, Orc.withC, noOrc] at cF
  replace cA : C.alt = fun i => if i = 8 then [0,1,3,4,5,6,7,2,8,9] else [] := cA
  have rg10 : List.range 10 = [0, 1, 2, 3, 4, 5, 6, 7, 8, 9] := rfl
  clear cP cN
  obtain ⟨l, h⟩ := c
  unfold clkPut
  simp only
  by_cases h0 : clkCheck ⟨l, h⟩ = 0
  · obtain ⟨g1, g2, g3, g4⟩ := clk_ok.1 h0
    simp only at g1 g2 g3 g4
    have hl2 : l.length ≤ 4294967296 := by omega
    have hl3 : l.length ≤ 1048576 := by omega
    by_cases h1 : id ∈ ids l
    · have h1' := (findIt_iff l id).2 h1
      simp [Try.ntmps15, Try.results15, cSl, cp0, cp1, cn0, cn1, cI, cD, cR, cF, cA, rg10, rClk, clkDec, rItem, Clk.row, h0, h1, h1', hl2, clkX, clkU, okL, okO]
      first
      | exact ent_err (@clk_err _) (by simp [lowA, lowC])
      | (refine Ent.weakT (th := [0]) ?_; simp []; done)
      | (refine Ent.weakT (th := [1]) ?_; simp []; done)
      | (refine Ent.weakT (th := [2]) ?_; simp []; done)
      | (refine Ent.weakT (th := [3]) ?_; simp []; done)
      | (refine Ent.weakT (th := [4]) ?_; simp []; done)
      | (refine Ent.weakT (th := [5]) ?_; simp []; done)
      | (refine Ent.weakT (th := [6]) ?_; simp []; done)
      | (refine Ent.weakT (th := [7]) ?_; simp []; done)
      | (refine Ent.weakT (th := [8]) ?_; simp []; done)
      | (refine Ent.weakT (th := [9]) ?_; simp []; done)
      | (refine Ent.weakT (th := [10]) ?_; simp []; done)
      | (refine Ent.weakT (th := [11]) ?_; simp []; done)
    · have h1' : ¬ 0 ≤ findIt l id := fun h => h1 ((findIt_iff _ _).1 h)
      by_cases h2 : l.length = 64
      · have h2' : (l.length : Int) = 64 := by omega
        simp [Try.ntmps15, Try.results15, cSl, cp0, cp1, cn0, cn1, cI, cD, cR, cF, cA, rg10, rClk, clkDec, rItem, Clk.row, h0, h1, h1', h2, h2', hl2, clkX, clkU, okL, okO]
        first
        | exact ent_err (@clk_err _) (by simp [lowA, lowC])
        | (refine Ent.weakT (th := [0]) ?_; simp []; done)
        | (refine Ent.weakT (th := [1]) ?_; simp []; done)
        | (refine Ent.weakT (th := [2]) ?_; simp []; done)
        | (refine Ent.weakT (th := [3]) ?_; simp []; done)
        | (refine Ent.weakT (th := [4]) ?_; simp []; done)
        | (refine Ent.weakT (th := [5]) ?_; simp []; done)
        | (refine Ent.weakT (th := [6]) ?_; simp []; done)
        | (refine Ent.weakT (th := [7]) ?_; simp []; done)
        | (refine Ent.weakT (th := [8]) ?_; simp []; done)
        | (refine Ent.weakT (th := [9]) ?_; simp []; done)
        | (refine Ent.weakT (th := [10]) ?_; simp []; done)
        | (refine Ent.weakT (th := [11]) ?_; simp []; done)
      · have h2' : ¬ (l.length : Int) = 64 := by omega
        obtain ⟨k, rfl⟩ := Int.eq_ofNat_of_zero_le g2
        have hw1 : IntKind.i64.wrap ((k : Int) + 1) = (k : Int) + 1 := w64 (by omega) (by omega)
        have hne : ¬ (l.length : Int) + 1 = 0 := by omega
        by_cases hn : l = []
        · subst hn
          have hk : k = 0 := by simp at g3; omega
          subst hk
          have h00 : clkCheck ⟨[], 0⟩ = 0 := rfl
          simp [Try.ntmps15, Try.results15, cSl, cp0, cp1, cn0, cn1, cI, cD, cR, cF, cA, rg10, rClk, clkDec, rItem, Clk.row, Clk.hrow, Item.row, h00, h1', clkX, clkU, okL, okO, cloneI, insertI, h1, hw1]
          first
          | exact ent_err (@clk_err _) (by simp [lowA, lowC])
          | (refine Ent.weakT (th := [0]) ?_; simp []; done)
          | (refine Ent.weakT (th := [1]) ?_; simp []; done)
          | (refine Ent.weakT (th := [2]) ?_; simp []; done)
          | (refine Ent.weakT (th := [3]) ?_; simp []; done)
          | (refine Ent.weakT (th := [4]) ?_; simp []; done)
          | (refine Ent.weakT (th := [5]) ?_; simp []; done)
          | (refine Ent.weakT (th := [6]) ?_; simp []; done)
          | (refine Ent.weakT (th := [7]) ?_; simp []; done)
          | (refine Ent.weakT (th := [8]) ?_; simp []; done)
          | (refine Ent.weakT (th := [9]) ?_; simp []; done)
          | (refine Ent.weakT (th := [10]) ?_; simp []; done)
          | (refine Ent.weakT (th := [11]) ?_; simp []; done)
        · have hpos : 0 < l.length := List.length_pos_iff.2 hn
          have hk : k ≤ l.length := by omega
          have hh1 : l.length + 1 ≤ k + (l.length - k + 1) := by omega
          have hh2 : ∀ x : Row, List.take (l.length + 1) (List.take k (List.map Item.row l) ++ x :: List.drop k (List.map Item.row l)) = List.take k (List.map Item.row l) ++ x :: List.drop k (List.map Item.row l) := by
            intro x; apply List.take_of_length_le; simp; omega
          obtain ⟨Y, hY⟩ : ∃ Y, l.take k ++ (⟨id, true, false⟩ : Item) :: l.drop k = Y := ⟨_, rfl⟩
          have hYm : List.take k (l.map Item.row) ++ [.v (.int .i64 id), .v (.bool true), .v (.bool false)] :: List.drop k (l.map Item.row) = Y.map Item.row := by rw [← hY]; simp [Item.row]
          have hYl : Y.length = l.length + 1 := by rw [← hY]; simp; omega
          simp [Try.ntmps15, Try.results15, cSl, cp0, cp1, cn0, cn1, cI, cD, cR, cF, cA, rg10, hY, hYm, hYl, hh1, hh2, rClk, clkDec, rItem, Clk.row, Clk.hrow, Item.row, h0, h1', h2, h2', clkX, clkU, okL, okO, cloneI, insertI, h1, hw1, hl2, hl3, hpos, hk, hn, hne]
          constructor
          · first
            | exact ent_err (@clk_err _) (by simp [lowA, lowC])
            | (refine Ent.weakT (th := [0]) ?_; simp []; done)
            | (refine Ent.weakT (th := [1]) ?_; simp []; done)
            | (refine Ent.weakT (th := [2]) ?_; simp []; done)
            | (refine Ent.weakT (th := [3]) ?_; simp []; done)
            | (refine Ent.weakT (th := [4]) ?_; simp []; done)
            | (refine Ent.weakT (th := [5]) ?_; simp []; done)
            | (refine Ent.weakT (th := [6]) ?_; simp []; done)
            | (refine Ent.weakT (th := [7]) ?_; simp []; done)
            | (refine Ent.weakT (th := [8]) ?_; simp []; done)
            | (refine Ent.weakT (th := [9]) ?_; simp []; done)
            | (refine Ent.weakT (th := [10]) ?_; simp []; done)
            | (refine Ent.weakT (th := [11]) ?_; simp []; done)
          · first
            | exact ent_err (@clk_err _) (by simp [lowA, lowC])
            | (refine Ent.weakT (th := [0]) ?_; simp []; done)
            | (refine Ent.weakT (th := [1]) ?_; simp []; done)
            | (refine Ent.weakT (th := [2]) ?_; simp []; done)
            | (refine Ent.weakT (th := [3]) ?_; simp []; done)
            | (refine Ent.weakT (th := [4]) ?_; simp []; done)
            | (refine Ent.weakT (th := [5]) ?_; simp []; done)
            | (refine Ent.weakT (th := [6]) ?_; simp []; done)
            | (refine Ent.weakT (th := [7]) ?_; simp []; done)
            | (refine Ent.weakT (th := [8]) ?_; simp []; done)
            | (refine Ent.weakT (th := [9]) ?_; simp []; done)
            | (refine Ent.weakT (th := [10]) ?_; simp []; done)
            | (refine Ent.weakT (th := [11]) ?_; simp []; done)
  · simp [Try.ntmps15, Try.results15, cSl, cp0, cp1, cn0, cn1, cI, cD, cR, cF, cA, rg10, rClk, clkDec, rItem, Clk.row, h0, clkX, clkU, okL, okO]
    first
    | exact ent_err (@clk_err _) (by simp [lowA, lowC])
    | (refine Ent.weakT (th := [0]) ?_; simp []; done)
    | (refine Ent.weakT (th := [1]) ?_; simp []; done)
    | (refine Ent.weakT (th := [2]) ?_; simp []; done)
    | (refine Ent.weakT (th := [3]) ?_; simp []; done)
    | (refine Ent.weakT (th := [4]) ?_; simp []; done)
    | (refine Ent.weakT (th := [5]) ?_; simp []; done)
    | (refine Ent.weakT (th := [6]) ?_; simp []; done)
    | (refine Ent.weakT (th := [7]) ?_; simp []; done)
    | (refine Ent.weakT (th := [8]) ?_; simp []; done)
    | (refine Ent.weakT (th := [9]) ?_; simp []; done)
    | (refine Ent.weakT (th := [10]) ?_; simp []; done)
    | (refine Ent.weakT (th := [11]) ?_; simp []; done)
theorem clkPut_inl : InlOk Try.prog 15 (frame0 (own0 (argG (cAgg rClk) fun c => argG (cInt .i64) fun id => finG (some (clkU (clkX (clkPut c id))))))) := frame0_ok clkPut_own
theorem clkNext_own : InlOk Try.prog 17 (own0 (argG (cAgg rClk) fun c => finG (some (nextU (nextX (clkNext c)))))) := by
  refine ownE_1 Try.func17 rfl ?_
  rintro c r H' hr
  simp only [Option.some.injEq, Prod.mk.injEq] at hr
  obtain ⟨rfl, rfl⟩ := hr
  refine bodyE_of (((((noOrc_ok.withP clkCheck_pure).withP nxAny_pure).withIF itClone clone_loc).withIF itDel delete_loc).withD (fun i => if i = 6 then [(2,4)] else [])) fxMix (by kernel_rfl) (by simp [Try.ntmps17]) ?_
  intro C cP cI cN cD cF cA cR cL
  have cp0 := orcP clkCheck_pure (C := C) (by rw [cP]; rfl)
  have cp1 := orcP nxAny_pure (C := C) (by rw [cP]; rfl)
  have cn0 := orcI itClone (C := C) (by rw [cN]; rfl)
  have cn1 := orcI itDel (C := C) (by rw [cN]; rfl)
  replace cI := fun g => congrFun cI g
  simp only [Orc.withP, Orc.withI, Orc.withF, Orc.withD, Orc.withA, Orc.withR, Orc.withC, noOrc] at cI
  replace cR : C.rd = fun _ => none := cR
  replace cD : C.dyn = fun i => if i = 6 then [(2,4)] else [] := cD
  replace cF := fun g => congrFun cF g
  simp only [Orc.withP, Orc.withI, Orc.withF, Orc.withD, Orc.withA, Orc.withR, Orc.withC, noOrc] at cF
  replace cA : C.alt = fun _ => [] := cA
  clear cP cN
  obtain ⟨l0, h⟩ := c
  unfold clkNext
  simp only
  by_cases h0 : clkCheck ⟨l0, h⟩ = 0
  · obtain ⟨g1, g2, g3, g4⟩ := clk_ok.1 h0
    simp only at g1 g2 g3 g4
    have hl2 : l0.length ≤ 4294967296 := by omega
    by_cases h1 : (l0.any fun x => !x.pinned) = true
    · have hu : ∃ x ∈ l0, x.pinned = false := by simpa using h1
      have hpos : 0 < l0.length := by obtain ⟨x, hx, _⟩ := hu; exact List.length_pos_of_mem hx
      have hne : ¬ l0 = [] := List.length_pos_iff.1 hpos
      obtain ⟨k0, rfl⟩ := Int.eq_ofNat_of_zero_le g2
      obtain ⟨jj, xx, hg, hx, hr⟩ := next_char (h := k0) (by omega) hu
      rw [if_pos h0, if_pos h1, Int.toNat_natCast, hr]
      generalize (lookd l0 k0 jj).eraseIdx ((k0 + jj) % l0.length) = R1 at *
      generalize (k0 + jj) % l0.length % max 1 (l0.length - 1) = R2 at *
      generalize jj + 1 = R4 at *
      generalize xx.id = R3 at *
      simp [Try.ntmps17, Try.results17, cSl, cp0, cp1, cn0, cn1, cI, cD, cR, cF, cA, rClk, clkDec, rItem, Clk.row, h0, h1, hl2, cloneI, hne]
      refine loop_inv (σ := {p : Nat × List Item × Nat × Nat // nextF p.1 p.2.1 p.2.2.1 p.2.2.2 = some (R1, R2, R3, R4) ∧ p.2.2.1 < p.2.1.length ∧ p.2.1.length = l0.length ∧ p.2.2.2 + p.1 ≤ 1000}) (fun p => ([(2, .ptr 1 2 0 0), (7, .osl 2 3 0 l0.length l0.length), (8, .v (.int .i64 p.val.2.2.1)), (9, .v (.int .i64 p.val.2.2.2))], [none, some (2, [[.v (.slice none 0 0), .v (.int .i64 0)]]), some (3, p.val.2.1.map Item.row)])) (fun p => p.val.1) ⟨(2 * l0.length, l0, k0, 1), hr, by simp; omega, rfl, by simp; omega⟩ (by simp) ?_
      rintro ⟨⟨f, l, k, n⟩, i1, i2, i3, i4⟩
      simp only at i1 i2 i3 i4 ⊢
      cases f with
      | zero => simp [nextF] at i1
      | succ f =>
        have hgk : l[k]? = some l[k] := List.getElem?_eq_getElem i2
        simp only [nextF, hgk] at i1
        have hkl : k < l0.length := by omega
        have hw1 : IntKind.i64.wrap ((k : Int) + 1) = (k : Int) + 1 := w64 (by omega) (by omega)
        have hw2 : IntKind.i64.wrap ((n : Int) + 1) = (n : Int) + 1 := w64 (by omega) (by omega)
        have hl3 : l0.length ≤ 1048576 := by omega
        by_cases hf : freeI l[k] = true
        · rw [if_pos hf] at i1
          simp at i1
          obtain ⟨e1, e2, e3, e4⟩ := i1
          simp [freeI] at hf
          have hmx : (if 1 < ((l0.length - 1 : Nat) : Int) then ((l0.length - 1 : Nat) : Int) else 1) = ((max 1 (l0.length - 1) : Nat) : Int) := by omega
          have hmx2 : (if ((l0.length - 1 : Nat) : Int) > 1 then ((l0.length - 1 : Nat) : Int) else 1) = ((max 1 (l0.length - 1) : Nat) : Int) := by omega
          have hmx3 : (if 1 < l0.length - 1 then ((l0.length - 1 : Nat) : Int) else 1) = ((max 1 (l0.length - 1) : Nat) : Int) := by omega
          have hmx4 : ¬ ((max 1 (l0.length - 1) : Nat) : Int) = 0 := by omega
          have hmx5 : ¬ (max 1 (l0.length - 1) : Nat) = 0 := by omega
          have her : (l.map Item.row).eraseIdx k = R1.map Item.row := by rw [← e1, List.eraseIdx_eq_take_drop_succ, List.eraseIdx_eq_take_drop_succ]; simp
          have hln : R1.length = l0.length - 1 := by rw [← e1, List.length_eraseIdx, if_pos i2, i3]
          have hln2 : l0.length ≤ R1.length + 1 := by omega
          have htk : List.take (l0.length - 1) (R1.map Item.row) = R1.map Item.row := by rw [← hln]; exact takeMapLen
          rw [i3] at e2
          have e2' : (k : Int) % ((max 1 (l0.length - 1) : Nat) : Int) = (R2 : Int) := by rw [← e2]; simp
          simp [Try.ntmps17, Try.results17, cSl, cp0, cp1, cn0, cn1, cI, cD, cR, cF, cA, i2, i3, hkl, hf, deleteI, Item.row, hw1, hl3, hmx, hmx2, hmx3, hmx4, hmx5, nextX, nextU, okL, okO, Clk.hrow, her, hln, hln2, htk, e2', e3, e4]
          first
          | exact ent_err (@next_err _ _ _) (by simp [lowA, lowC])
          | (refine Ent.weakT (th := [0]) ?_; simp []; done)
          | (refine Ent.weakT (th := [1]) ?_; simp []; done)
          | (refine Ent.weakT (th := [2]) ?_; simp []; done)
          | (refine Ent.weakT (th := [3]) ?_; simp []; done)
          | (refine Ent.weakT (th := [4]) ?_; simp []; done)
          | (refine Ent.weakT (th := [5]) ?_; simp []; done)
          | (refine Ent.weakT (th := [6]) ?_; simp []; done)
          | (refine Ent.weakT (th := [7]) ?_; simp []; done)
          | (refine Ent.weakT (th := [8]) ?_; simp []; done)
          | (refine Ent.weakT (th := [9]) ?_; simp []; done)
          | (refine Ent.weakT (th := [10]) ?_; simp []; done)
          | (refine Ent.weakT (th := [11]) ?_; simp []; done)
        · rw [if_neg hf] at i1
          have hne2 : ¬ (l0.length : Int) = 0 := by omega
          have hf2 : l[k].pinned = true ∨ l[k].used = true := by
            simp [freeI] at hf
            cases hp : l[k].pinned
            · right; exact hf hp
            · left; rfl
          rw [i3] at i1
          have hm : Int.tmod ((k : Int) + 1) (l0.length : Int) = (((k + 1) % l0.length : Nat) : Int) := rfl
          have hml : (k + 1) % l0.length < l0.length := Nat.mod_lt _ hpos
          have key : ∀ u : Bool, u = (mkI l[k]).used → (l.map Item.row).set k [.v (.int .i64 l[k].id), .v (.bool u), .v (.bool l[k].pinned)] = (l.set k (mkI l[k])).map Item.row := by
            intro u hu
            rw [List.map_set]
            congr 1
            simp [Item.row, hu, mkI]
          by_cases hp : l[k].pinned = true
          · by_cases hu2 : l[k].used = true
            · have hrow := key true (by simp [mkI, hp, hu2])
              rw [hp] at hrow
              simp [Try.ntmps17, Try.results17, cSl, cp0, cp1, cn0, cn1, cI, cD, cR, cF, cA, i2, i3, hkl, Item.row, hw1, hw2, hp, hu2, hne, hm, hrow]
              exact ⟨f, by omega, l.set k (mkI l[k]), (k + 1) % l0.length, n + 1, by simp, ⟨i1, by simp [i3, hml], by simp [i3], by omega⟩, by simp [Item.row, mkI, hp, hu2]⟩
            · have hrow := key false (by simp [mkI, hu2])
              rw [hp] at hrow
              simp [Try.ntmps17, Try.results17, cSl, cp0, cp1, cn0, cn1, cI, cD, cR, cF, cA, i2, i3, hkl, Item.row, hw1, hw2, hp, hu2, hne, hm, hrow]
              exact ⟨f, by omega, l.set k (mkI l[k]), (k + 1) % l0.length, n + 1, by simp, ⟨i1, by simp [i3, hml], by simp [i3], by omega⟩, by simp [Item.row, mkI, hp, hu2]⟩
          · have hu2 : l[k].used = true := hf2.resolve_left hp
            simp at hp
            have hrow := key false (by simp [mkI, hp])
            rw [hp] at hrow
            simp [Try.ntmps17, Try.results17, cSl, cp0, cp1, cn0, cn1, cI, cD, cR, cF, cA, i2, i3, hkl, Item.row, hw1, hw2, hp, hu2, hne, hm, hrow]
            exact ⟨f, by omega, l.set k (mkI l[k]), (k + 1) % l0.length, n + 1, by simp, ⟨i1, by simp [i3, hml], by simp [i3], by omega⟩, by simp [Item.row, mkI, hp, hu2]⟩
    · have h1' : (l0.any fun x => !x.pinned) = false := by simpa only [Bool.not_eq_true] using h1
      simp [Try.ntmps17, Try.results17, cSl, cp0, cp1, cn0, cn1, cI, cD, cR, cF, cA, rClk, clkDec, rItem, Clk.row, h0, h1', hl2, nextX, nextU, okL, okO]
      first
      | exact ent_err (@next_err _ _ _) (by simp [lowA, lowC])
      | (refine Ent.weakT (th := [0]) ?_; simp []; done)
      | (refine Ent.weakT (th := [1]) ?_; simp []; done)
      | (refine Ent.weakT (th := [2]) ?_; simp []; done)
      | (refine Ent.weakT (th := [3]) ?_; simp []; done)
      | (refine Ent.weakT (th := [4]) ?_; simp []; done)
      | (refine Ent.weakT (th := [5]) ?_; simp []; done)
      | (refine Ent.weakT (th := [6]) ?_; simp []; done)
      | (refine Ent.weakT (th := [7]) ?_; simp []; done)
      | (refine Ent.weakT (th := [8]) ?_; simp []; done)
      | (refine Ent.weakT (th := [9]) ?_; simp []; done)
      | (refine Ent.weakT (th := [10]) ?_; simp []; done)
      | (refine Ent.weakT (th := [11]) ?_; simp []; done)
  · simp [Try.ntmps17, Try.results17, cSl, cp0, cp1, cn0, cn1, cI, cD, cR, cF, cA, rClk, clkDec, rItem, Clk.row, h0, nextX, nextU, okL, okO]
    first
    | exact ent_err (@next_err _ _ _) (by simp [lowA, lowC])
    | (refine Ent.weakT (th := [0]) ?_; simp []; done)
    | (refine Ent.weakT (th := [1]) ?_; simp []; done)
    | (refine Ent.weakT (th := [2]) ?_; simp []; done)
    | (refine Ent.weakT (th := [3]) ?_; simp []; done)
    | (refine Ent.weakT (th := [4]) ?_; simp []; done)
    | (refine Ent.weakT (th := [5]) ?_; simp []; done)
    | (refine Ent.weakT (th := [6]) ?_; simp []; done)
    | (refine Ent.weakT (th := [7]) ?_; simp []; done)
    | (refine Ent.weakT (th := [8]) ?_; simp []; done)
    | (refine Ent.weakT (th := [9]) ?_; simp []; done)
    | (refine Ent.weakT (th := [10]) ?_; simp []; done)
    | (refine Ent.weakT (th := [11]) ?_; simp []; done)
theorem clkNext_inl : InlOk Try.prog 17 (frame0 (own0 (argG (cAgg rClk) fun c => finG (some (nextU (nextX (clkNext c))))))) := frame0_ok clkNext_own
def clkMark (c : Clk) (x : Item) : Except Int Clk :=
  if clkCheck c = 0 then (if findIt c.items x.id < 0 then .error 4 else .ok ⟨c.items.set (findIt c.items x.id).toNat x, c.hand⟩) else .error (clkCheck c)
theorem findIt_lt {l : List Item} {id : Int} (h : 0 ≤ findIt l id) : ∃ k : Nat, findIt l id = k ∧ k < l.length := by
  obtain ⟨k, hk, hl, _⟩ := idxP_some (p := fun x : Item => x.id == id) (l := l) (by unfold findIt at h; omega)
  exact ⟨k, hk, hl⟩
theorem clkMark_own : InlOk Try.prog 16 (own0 (argG (cAgg rClk) fun c => argG (cAgg rItem) fun x => finG (some (clkU (clkX (clkMark c x)))))) := by
  refine ownE_2 Try.func16 rfl ?_
  rintro c x r H' hr
  simp only [Option.some.injEq, Prod.mk.injEq] at hr
  obtain ⟨rfl, rfl⟩ := hr
  refine bodyE_of (((noOrc_ok.withP clkCheck_pure).withP find_pure).withIF itClone clone_loc) fxMix (by kernel_rfl) (by simp [Try.ntmps16]) ?_
  intro C cP cI cN cD cF cA cR cL
  have cp0 := orcP clkCheck_pure (C := C) (by rw [cP]; rfl)
  have cp1 := orcP find_pure (C := C) (by rw [cP]; rfl)
  have cn0 := orcI itClone (C := C) (by rw [cN]; rfl)
  replace cI := fun g => congrFun cI g
  simp only [Orc.withP, Orc.withI, Orc.withF, Orc.withD, Orc.withA, Orc.withR, Orc.withC, noOrc] at cI
  replace cR : C.rd = fun _ => none := cR
  replace cD : C.dyn = fun _ => [] := cD
  clear cP cN cF cA
  obtain ⟨l, h⟩ := c
  unfold clkMark
  simp only
  by_cases h0 : clkCheck ⟨l, h⟩ = 0
  · obtain ⟨g1, g2, g3, g4⟩ := clk_ok.1 h0
    simp only at g1 g2 g3 g4
    have hl2 : l.length ≤ 4294967296 := by omega
    by_cases h1 : findIt l x.id < 0
    · simp [Try.ntmps16, Try.results16, cSl, cp0, cp1, cn0, cI, cD, cR, rClk, clkDec, rItem, Clk.row, Item.row, itemDec, h0, h1, hl2, clkX, clkU, okL, okO]
      first
      | exact ent_err (@clk_err _) (by simp [lowA, lowC])
      | (refine Ent.weakT (th := [0]) ?_; simp []; done)
      | (refine Ent.weakT (th := [1]) ?_; simp []; done)
      | (refine Ent.weakT (th := [2]) ?_; simp []; done)
      | (refine Ent.weakT (th := [3]) ?_; simp []; done)
      | (refine Ent.weakT (th := [4]) ?_; simp []; done)
      | (refine Ent.weakT (th := [5]) ?_; simp []; done)
      | (refine Ent.weakT (th := [6]) ?_; simp []; done)
      | (refine Ent.weakT (th := [7]) ?_; simp []; done)
      | (refine Ent.weakT (th := [8]) ?_; simp []; done)
      | (refine Ent.weakT (th := [9]) ?_; simp []; done)
      | (refine Ent.weakT (th := [10]) ?_; simp []; done)
      | (refine Ent.weakT (th := [11]) ?_; simp []; done)
    · obtain ⟨k, hk, hkl⟩ := findIt_lt (l := l) (id := x.id) (by omega)
      have h2 : ¬ ((k : Int) < 0) := by omega
      have hne : ¬ l = [] := by rintro rfl; simp at hkl
      obtain ⟨Y, hY⟩ : ∃ Y, l.set k x = Y := ⟨_, rfl⟩
      have hms : (l.map Item.row).set k [.v (.int .i64 x.id), .v (.bool x.used), .v (.bool x.pinned)] = Y.map Item.row := by rw [← hY, List.map_set]; rfl
      have hYl : Y.length = l.length := by rw [← hY]; simp
      simp [Try.ntmps16, Try.results16, cSl, cp0, cp1, cn0, cI, cD, cR, rClk, clkDec, rItem, Clk.row, Item.row, itemDec, h0, hk, h2, hl2, hne, hkl, cloneI, clkX, clkU, okL, okO, hms, hY, hYl]
      first
      | exact ent_err (@clk_err _) (by simp [lowA, lowC])
      | (refine Ent.weakT (th := [0]) ?_; simp []; done)
      | (refine Ent.weakT (th := [1]) ?_; simp []; done)
      | (refine Ent.weakT (th := [2]) ?_; simp []; done)
      | (refine Ent.weakT (th := [3]) ?_; simp []; done)
      | (refine Ent.weakT (th := [4]) ?_; simp []; done)
      | (refine Ent.weakT (th := [5]) ?_; simp []; done)
      | (refine Ent.weakT (th := [6]) ?_; simp []; done)
      | (refine Ent.weakT (th := [7]) ?_; simp []; done)
      | (refine Ent.weakT (th := [8]) ?_; simp []; done)
      | (refine Ent.weakT (th := [9]) ?_; simp []; done)
      | (refine Ent.weakT (th := [10]) ?_; simp []; done)
      | (refine Ent.weakT (th := [11]) ?_; simp []; done)
  · simp [Try.ntmps16, Try.results16, cSl, cp0, cp1, cn0, cI, cD, cR, rClk, clkDec, rItem, Clk.row, Item.row, itemDec, h0, clkX, clkU, okL, okO]
    first
    | exact ent_err (@clk_err _) (by simp [lowA, lowC])
    | (refine Ent.weakT (th := [0]) ?_; simp []; done)
    | (refine Ent.weakT (th := [1]) ?_; simp []; done)
    | (refine Ent.weakT (th := [2]) ?_; simp []; done)
    | (refine Ent.weakT (th := [3]) ?_; simp []; done)
    | (refine Ent.weakT (th := [4]) ?_; simp []; done)
    | (refine Ent.weakT (th := [5]) ?_; simp []; done)
    | (refine Ent.weakT (th := [6]) ?_; simp []; done)
    | (refine Ent.weakT (th := [7]) ?_; simp []; done)
    | (refine Ent.weakT (th := [8]) ?_; simp []; done)
    | (refine Ent.weakT (th := [9]) ?_; simp []; done)
    | (refine Ent.weakT (th := [10]) ?_; simp []; done)
    | (refine Ent.weakT (th := [11]) ?_; simp []; done)
theorem clkMark_inl : InlOk Try.prog 16 (frame0 (own0 (argG (cAgg rClk) fun c => argG (cAgg rItem) fun x => finG (some (clkU (clkX (clkMark c x))))))) := frame0_ok clkMark_own
end
end
end Go.Proofs.Ytebpjfdbjhodiaa
