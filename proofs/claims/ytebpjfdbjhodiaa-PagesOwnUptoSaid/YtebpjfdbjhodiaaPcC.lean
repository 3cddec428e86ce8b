/- Package pages: pages, caches, their order. Pages in order: plain theory. Package pages: Check. Package pages: at, there, Get. Package pages: what its functions do, plainly. ringkeep2's laws of pages, plainly. Dirty pages, one after the other: plainly. Package pages: with, Bring, Set, Map, Out, Back. Package pages: Bring, Set, Map, Out. Package pages: Bring, Out. Package pages: Back. -/
import Derived.Test.YtebpjfdbjhodiaaPaA
import Derived.Test.YtebpjfdbjhodiaaAiZd
namespace Go.Proofs.Ytebpjfdbjhodiaa
open Go.AI
set_option linter.unusedSimpArgs false
set_option linter.unusedVariables false
section
set_option maxHeartbeats 2000000
set_option maxRecDepth 100000
set_option linter.unusedSimpArgs false
set_option linter.unusedVariables false
attribute [local simp] wpA wpX RunA RunD runF foot footP footB idsA bare apart runL step1 gsel_f gsel_t gsel_s res_same res_and1 res_and2 res_and3 res_and4 res_and5 res_and6 res_false res_true res_v res_ptr res_fptr res_osl res_xsl soft aAppendZ aCap ovlI ovlJ res_fsl res_esl res_agg res_tup res_fn res_junk res_anyb aPick hk imp_left iteV dstOk guardOk astep astepE AI.ev AI.look AI.put envOf aBox cellsOf allOne allOneA oneA Value.oneCell' Value.cells newObj' aFieldAddr aLoad obj readAt thenA blockA condA retA resA tupA view hot hotC hotR depthV cAgg cInt cBool mkAgg allV aAlloc aBuild fillA writeAt aStore isAggA aField idx aIndexAddr aIndex bnd aSlice aExtract aLen aBuiltin aCall isStatic eqAgg eqTy eqC ev_add ev_sub ev_mul ev_quo ev_rem ev_and ev_or ev_xor ev_andNot ev_shl ev_shr ev_eql ev_neq ev_lss ev_leq ev_gtr ev_geq ev_agg w64 wu32 wu8 ev_not ev_neg Cod.plain RCod.plain argM finM cold coldC coldR goInt intDec boolDec aggDec Weaker heapW lowA lowC Again slDec undef aBuildSlice setRows aAppend rowsOf aMakeSlice aClear aCopy softer_self softer_nil valsOf ev_min2 ev_max2 hotR_set hotR_append take_map_set irow_cold irow_mapM irow_mapMc irow_view irow_viewc irow_hotR irow_ren irow_renc irow_low WeakT heapT thOf ren renC AgainT NextF NextT fnDec cFn rNil selfLt natLt0 natLt1 getLastMap frame0 frame1 own0 own1 argG finG tau tauI tauO tauC bareA bareC bareH irow_tau irow_tauc irow_bare irow_flat irow_bareR ownA_nil ownT_nil ownA_c ownT_c ownA_s ownT_s takeMapLen footC plainA noId noIdC cloneF frame0F frame1F insertF replaceI replaceF cellDec rCell fpDec cFp rTwo deleteF allV_oA oneA_oA res_oA RunR RunE runFT footAt hotR_cat tmodN aEqH aSliceA fxSz2 fxBy2 fxAg2 fxZe2 fxSl2 fxAr2 fxPl2 fxSz3 fxBy3 fxAg3 fxZe3 fxSl3 fxAr3 fxPl3 fxSz4 fxBy4 fxAg4 fxZe4 fxSl4 fxAr4 fxPl4 fxSz5 fxBy5 fxAg5 fxZe5 fxSl5 fxAr5 fxPl5 fxSz9 fxBy9 fxAg9 fxZe9 fxSl9 fxAr9 fxPl9 fxSz12 fxBy12 fxAg12 fxZe12 fxSl12 fxAr12 fxPl12 fxSz13 fxBy13 fxAg13 fxZe13 fxSl13 fxAr13 fxFi13x0 fxFi13x1 fxPl13 fxSz21 fxBy21 fxAg21 fxZe21 fxSl21 fxAr21 fxPl21 fxSz22 fxBy22 fxAg22 fxZe22 fxSl22 fxAr22 fxPl22 fxSz23 fxBy23 fxAg23 fxZe23 fxSl23 fxAr23 fxFi23x0 fxFi23x1 fxPl23 fxSz24 fxBy24 fxAg24 fxZe24 fxSl24 fxAr24 fxFi24x0 fxFi24x1 fxPl24 fxSz25 fxBy25 fxAg25 fxZe25 fxSl25 fxAr25 fxFi25x0 fxFi25x1 fxFi25x2 fxPl25 fxSz26 fxBy26 fxAg26 fxZe26 fxSl26 fxAr26 fxFi26x0 fxFi26x1 fxFi26x2 fxPl26 fxSz27 fxBy27 fxAg27 fxZe27 fxSl27 fxAr27 fxPl27 fxSz28 fxBy28 fxAg28 fxZe28 fxSl28 fxAr28 fxFi28x0 fxFi28x1 fxPl28 fxSz29 fxBy29 fxAg29 fxZe29 fxSl29 fxAr29 fxFi29x0 fxFi29x1 fxPl29 fxSz33 fxBy33 fxAg33 fxZe33 fxSl33 fxAr33 fxPl33 fxSz34 fxBy34 fxAg34 fxZe34 fxSl34 fxAr34 fxFi34x0 fxFi34x1 fxFi34x2 fxFi34x3 fxFi34x4 fxPl34 fxSz35 fxBy35 fxAg35 fxZe35 fxSl35 fxAr35 fxFi35x0 fxFi35x1 fxFi35x2 fxFi35x3 fxFi35x4 fxPl35 fxSz38 fxBy38 fxAg38 fxZe38 fxSl38 fxAr38 fxPl38 fxSz50 fxBy50 fxAg50 fxZe50 fxSl50 fxAr50 fxPl50 fxSz51 fxBy51 fxAg51 fxZe51 fxSl51 fxAr51 fxPl51 fxSz53 fxBy53 fxAg53 fxZe53 fxSl53 fxAr53 fxPl53 fxSz54 fxBy54 fxAg54 fxZe54 fxSl54 fxAr54 fxFi54x0 fxFi54x1 fxPl54 fxSz55 fxBy55 fxAg55 fxZe55 fxSl55 fxAr55 fxFi55x0 fxFi55x1 fxPl55 fxSz56 fxBy56 fxAg56 fxZe56 fxSl56 fxAr56 fxPl56 fxSz57 fxBy57 fxAg57 fxZe57 fxSl57 fxAr57 fxPl57 fxSz58 fxBy58 fxAg58 fxZe58 fxSl58 fxAr58 fxFi58x0 fxFi58x1 fxFi58x2 fxFi58x3 fxFi58x4 fxFi58x5 fxFi58x6 fxPl58 fxSz59 fxBy59 fxAg59 fxZe59 fxSl59 fxAr59 fxFi59x0 fxFi59x1 fxFi59x2 fxFi59x3 fxFi59x4 fxFi59x5 fxFi59x6 fxPl59 fxSz60 fxBy60 fxAg60 fxZe60 fxSl60 fxAr60 fxPl60 fxSz61 fxBy61 fxAg61 fxZe61 fxSl61 fxAr61 fxFi61x0 fxFi61x1 fxPl61 fxSz62 fxBy62 fxAg62 fxZe62 fxSl62 fxAr62 fxFi62x0 fxFi62x1 fxPl62 fxSz63 fxBy63 fxAg63 fxZe63 fxSl63 fxAr63 fxPl63 fxSz64 fxBy64 fxAg64 fxZe64 fxSl64 fxAr64 fxFi64x0 fxFi64x1 fxFi64x2 fxPl64 fxSz65 fxBy65 fxAg65 fxZe65 fxSl65 fxAr65 fxFi65x0 fxFi65x1 fxFi65x2 fxPl65 fxSz66 fxBy66 fxAg66 fxZe66 fxSl66 fxAr66 fxPl66 fxSz68 fxBy68 fxAg68 fxZe68 fxSl68 fxAr68 fxPl68 fxSz69 fxBy69 fxAg69 fxZe69 fxSl69 fxAr69 fxPl69 fxSz70 fxBy70 fxAg70 fxZe70 fxSl70 fxAr70 fxPl70 fxSz71 fxBy71 fxAg71 fxZe71 fxSl71 fxAr71 fxFi71x0 fxFi71x1 fxPl71 fxSz72 fxBy72 fxAg72 fxZe72 fxSl72 fxAr72 fxFi72x0 fxFi72x1 fxPl72 fxSz74 fxBy74 fxAg74 fxZe74 fxSl74 fxAr74 fxPl74 fxSz75 fxBy75 fxAg75 fxZe75 fxSl75 fxAr75 fxFi75x0 fxFi75x1 fxFi75x2 fxPl75 fxSz76 fxBy76 fxAg76 fxZe76 fxSl76 fxAr76 fxFi76x0 fxFi76x1 fxFi76x2 fxPl76 fxSz92 fxBy92 fxAg92 fxZe92 fxSl92 fxAr92 fxPl92 fxSz93 fxBy93 fxAg93 fxZe93 fxSl93 fxAr93 fxPl93 fxSz94 fxBy94 fxAg94 fxZe94 fxSl94 fxAr94 fxPl94 fxSz96 fxBy96 fxAg96 fxZe96 fxSl96 fxAr96 fxPl96 fxSz97 fxBy97 fxAg97 fxZe97 fxSl97 fxAr97 fxPl97 fxSz98 fxBy98 fxAg98 fxZe98 fxSl98 fxAr98 fxFi98x0 fxFi98x1 fxPl98 fxSz99 fxBy99 fxAg99 fxZe99 fxSl99 fxAr99 fxFi99x0 fxFi99x1 fxPl99 fxSz100 fxBy100 fxAg100 fxZe100 fxSl100 fxAr100 fxPl100 fxSz101 fxBy101 fxAg101 fxZe101 fxSl101 fxAr101 fxFi101x0 fxFi101x1 fxPl101 fxSz102 fxBy102 fxAg102 fxZe102 fxSl102 fxAr102 fxFi102x0 fxFi102x1 fxPl102 fxSz103 fxBy103 fxAg103 fxZe103 fxSl103 fxAr103 fxFi103x0 fxFi103x1 fxPl103 fxSz104 fxBy104 fxAg104 fxZe104 fxSl104 fxAr104 fxFi104x0 fxFi104x1 fxPl104 fxSz106 fxBy106 fxAg106 fxZe106 fxSl106 fxAr106 fxFi106x0 fxFi106x1 fxFi106x2 fxPl106 fxSz107 fxBy107 fxAg107 fxZe107 fxSl107 fxAr107 fxFi107x0 fxFi107x1 fxFi107x2 fxPl107 fxSz109 fxBy109 fxAg109 fxZe109 fxSl109 fxAr109 fxFi109x0 fxFi109x1 fxPl109 fxSz110 fxBy110 fxAg110 fxZe110 fxSl110 fxAr110 fxFi110x0 fxFi110x1 fxPl110 fxSz111 fxBy111 fxAg111 fxZe111 fxSl111 fxAr111 fxPl111 fxSz112 fxBy112 fxAg112 fxZe112 fxSl112 fxAr112 fxPl112 fxSz113 fxBy113 fxAg113 fxZe113 fxSl113 fxAr113 fxFi113x0 fxFi113x1 fxPl113 fxSz114 fxBy114 fxAg114 fxZe114 fxSl114 fxAr114 fxFi114x0 fxFi114x1 fxPl114 fxSz131 fxBy131 fxAg131 fxZe131 fxSl131 fxAr131 fxPl131 fxSz132 fxBy132 fxAg132 fxZe132 fxSl132 fxAr132 fxPl132 fxSz133 fxBy133 fxAg133 fxZe133 fxSl133 fxAr133 fxPl133 fxSz135 fxBy135 fxAg135 fxZe135 fxSl135 fxAr135 fxPl135 fxSz136 fxBy136 fxAg136 fxZe136 fxSl136 fxAr136 fxFi136x0 fxFi136x1 fxFi136x2 fxPl136 fxSz137 fxBy137 fxAg137 fxZe137 fxSl137 fxAr137 fxFi137x0 fxFi137x1 fxFi137x2 fxPl137 fxSz138 fxBy138 fxAg138 fxZe138 fxSl138 fxAr138 fxPl138 fxSz139 fxBy139 fxAg139 fxZe139 fxSl139 fxAr139 fxFi139x0 fxFi139x1 fxPl139 fxSz140 fxBy140 fxAg140 fxZe140 fxSl140 fxAr140 fxFi140x0 fxFi140x1 fxPl140 fxSz141 fxBy141 fxAg141 fxZe141 fxSl141 fxAr141 fxPl141 fxSz145 fxBy145 fxAg145 fxZe145 fxSl145 fxAr145 fxFi145x0 fxFi145x1 fxPl145 fxSz146 fxBy146 fxAg146 fxZe146 fxSl146 fxAr146 fxFi146x0 fxFi146x1 fxPl146 fxSz165 fxBy165 fxAg165 fxZe165 fxSl165 fxAr165 fxPl165 fxSz166 fxBy166 fxAg166 fxZe166 fxSl166 fxAr166 fxPl166 fxSz167 fxBy167 fxAg167 fxZe167 fxSl167 fxAr167 fxPl167 fxSz169 fxBy169 fxAg169 fxZe169 fxSl169 fxAr169 fxPl169 fxSz170 fxBy170 fxAg170 fxZe170 fxSl170 fxAr170 fxPl170 fxSz171 fxBy171 fxAg171 fxZe171 fxSl171 fxAr171 fxPl171 fxSz183 fxBy183 fxAg183 fxZe183 fxSl183 fxAr183 fxPl183 fxSz208 fxBy208 fxAg208 fxZe208 fxSl208 fxAr208 fxPl208 fxSz262 fxBy262 fxAg262 fxZe262 fxSl262 fxAr262 fxPl262 fxSz283 fxBy283 fxAg283 fxZe283 fxSl283 fxAr283 fxPl283 fxSz294 fxBy294 fxAg294 fxZe294 fxSl294 fxAr294 fxPl294 fxSz295 fxBy295 fxAg295 fxZe295 fxSl295 fxAr295 fxPl295 fxSz296 fxBy296 fxAg296 fxZe296 fxSl296 fxAr296 fxPl296 fxSz299 fxBy299 fxAg299 fxZe299 fxSl299 fxAr299 fxPl299 fxSz307 fxBy307 fxAg307 fxZe307 fxSl307 fxAr307 fxPl307 fxSz308 fxBy308 fxAg308 fxZe308 fxSl308 fxAr308 fxPl308 fxSz316 fxBy316 fxAg316 fxZe316 fxSl316 fxAr316 fxPl316 fxSz320 fxBy320 fxAg320 fxZe320 fxSl320 fxAr320 fxPl320 fxSz324 fxBy324 fxAg324 fxZe324 fxSl324 fxAr324 fxPl324 fxSz330 fxBy330 fxAg330 fxZe330 fxSl330 fxAr330 fxPl330 fxSz331 fxBy331 fxAg331 fxZe331 fxSl331 fxAr331 fxFi331x0 fxPl331 fxSz337 fxBy337 fxAg337 fxZe337 fxSl337 fxAr337 fxPl337 fxSz342 fxBy342 fxAg342 fxZe342 fxSl342 fxAr342 fxPl342 fxEq26 fxEq33 fxEq35 fxEq59 fxEq62 fxEq65 fxEq76 fxEq104 fxEq107 fxEq110 fxEq137 fxEq146 fxEq171 fxEq296 fxCv2x2 fxCv2x3 fxCv2x5 fxCv2x12 fxCv2x21 fxCv2x38 fxCv2x74 fxCv2x283 fxCv2x299 fxCv2x307 fxCv2x316 fxCv3x2 fxCv3x3 fxCv3x5 fxCv3x12 fxCv3x21 fxCv3x38 fxCv3x74 fxCv3x283 fxCv3x299 fxCv3x307 fxCv3x316 fxCv5x2 fxCv5x3 fxCv5x5 fxCv5x12 fxCv5x21 fxCv5x38 fxCv5x74 fxCv5x283 fxCv5x299 fxCv5x307 fxCv5x316 fxCv12x2 fxCv12x3 fxCv12x5 fxCv12x12 fxCv12x21 fxCv12x38 fxCv12x74 fxCv12x283 fxCv12x299 fxCv12x307 fxCv12x316 fxCv21x2 fxCv21x3 fxCv21x5 fxCv21x12 fxCv21x21 fxCv21x38 fxCv21x74 fxCv21x283 fxCv21x299 fxCv21x307 fxCv21x316 fxCv38x2 fxCv38x3 fxCv38x5 fxCv38x12 fxCv38x21 fxCv38x38 fxCv38x74 fxCv38x283 fxCv38x299 fxCv38x307 fxCv38x316 fxCv74x2 fxCv74x3 fxCv74x5 fxCv74x12 fxCv74x21 fxCv74x38 fxCv74x74 fxCv74x283 fxCv74x299 fxCv74x307 fxCv74x316 fxCv283x2 fxCv283x3 fxCv283x5 fxCv283x12 fxCv283x21 fxCv283x38 fxCv283x74 fxCv283x283 fxCv283x299 fxCv283x307 fxCv283x316 fxCv299x2 fxCv299x3 fxCv299x5 fxCv299x12 fxCv299x21 fxCv299x38 fxCv299x74 fxCv299x283 fxCv299x299 fxCv299x307 fxCv299x316 fxCv307x2 fxCv307x3 fxCv307x5 fxCv307x12 fxCv307x21 fxCv307x38 fxCv307x74 fxCv307x283 fxCv307x299 fxCv307x307 fxCv307x316 fxCv316x2 fxCv316x3 fxCv316x5 fxCv316x12 fxCv316x21 fxCv316x38 fxCv316x74 fxCv316x283 fxCv316x299 fxCv316x307 fxCv316x316 fxEb4 fxNb4 fxLt9 fxLn22 fxNe22 fxNn22 fxOe22 fxOn22 fxXe22 fxXn22 fxLn27 fxNe27 fxNn27 fxOe27 fxOn27 fxXe27 fxXn27 fxLn53 fxNe53 fxNn53 fxOe53 fxOn53 fxXe53 fxXn53 fxLn60 fxNe60 fxNn60 fxOe60 fxOn60 fxXe60 fxXn60 fxLn63 fxNe63 fxNn63 fxOe63 fxOn63 fxXe63 fxXn63 fxLn66 fxNe66 fxNn66 fxOe66 fxOn66 fxXe66 fxXn66 fxLn68 fxNe68 fxNn68 fxOe68 fxOn68 fxXe68 fxXn68 fxLn69 fxNe69 fxNn69 fxOe69 fxOn69 fxXe69 fxXn69 fxLn70 fxNe70 fxNn70 fxOe70 fxOn70 fxXe70 fxXn70 fxLn96 fxNe96 fxNn96 fxOe96 fxOn96 fxXe96 fxXn96 fxLn97 fxNe97 fxNn97 fxOe97 fxOn97 fxXe97 fxXn97 fxLn100 fxNe100 fxNn100 fxOe100 fxOn100 fxXe100 fxXn100 fxLn111 fxNe111 fxNn111 fxOe111 fxOn111 fxXe111 fxXn111 fxLn112 fxNe112 fxNn112 fxOe112 fxOn112 fxXe112 fxXn112 fxLn135 fxNe135 fxNn135 fxOe135 fxOn135 fxXe135 fxXn135 fxLn138 fxNe138 fxNn138 fxOe138 fxOn138 fxXe138 fxXn138 fxLn141 fxNe141 fxNn141 fxOe141 fxOn141 fxXe141 fxXn141 fxLn169 fxNe169 fxNn169 fxOe169 fxOn169 fxXe169 fxXn169 fxLn170 fxNe170 fxNn170 fxOe170 fxOn170 fxXe170 fxXn170 fxLn308 fxNe308 fxNn308 fxOe308 fxOn308 fxXe308 fxXn308 fxFn3 fxFm3 fxFb3 fxFi3 fxFj3 fxFn4 fxFm4 fxFb4 fxFi4 fxFj4 fxFn5 fxFm5 fxFb5 fxFi5 fxFj5 fxFn6 fxFm6 fxFb6 fxFi6 fxFj6 fxFn7 fxFm7 fxFb7 fxFi7 fxFj7 fxFn8 fxFm8 fxFb8 fxFi8 fxFj8 fxFn9 fxFm9 fxFb9 fxFi9 fxFj9 fxFn10 fxFm10 fxFb10 fxFi10 fxFj10 fxFn11 fxFm11 fxFb11 fxFi11 fxFj11 fxFn12 fxFm12 fxFb12 fxFi12 fxFj12 fxFn13 fxFm13 fxFb13 fxFi13 fxFj13 fxFn14 fxFm14 fxFb14 fxFi14 fxFj14 fxFn15 fxFm15 fxFb15 fxFi15 fxFj15 fxFn16 fxFm16 fxFb16 fxFi16 fxFj16 fxFn17 fxFm17 fxFb17 fxFi17 fxFj17 fxFn18 fxFm18 fxFb18 fxFi18 fxFj18 fxFn19 fxFm19 fxFb19 fxFi19 fxFj19 fxFn20 fxFm20 fxFb20 fxFi20 fxFj20 fxFn21 fxFm21 fxFb21 fxFi21 fxFj21 fxFn22 fxFm22 fxFb22 fxFi22 fxFj22 fxFn23 fxFm23 fxFb23 fxFi23 fxFj23 fxFn24 fxFm24 fxFb24 fxFi24 fxFj24 fxFn25 fxFm25 fxFb25 fxFi25 fxFj25 fxFn26 fxFm26 fxFb26 fxFi26 fxFj26 fxFn27 fxFm27 fxFb27 fxFi27 fxFj27 fxFn28 fxFm28 fxFb28 fxFi28 fxFj28 fxFn29 fxFm29 fxFb29 fxFi29 fxFj29 fxFn30 fxFm30 fxFb30 fxFi30 fxFj30 fxFn31 fxFm31 fxFb31 fxFi31 fxFj31 fxFn32 fxFm32 fxFb32 fxFi32 fxFj32 fxFn33 fxFm33 fxFb33 fxFi33 fxFj33 fxFn34 fxFm34 fxFb34 fxFi34 fxFj34 fxFn35 fxFm35 fxFb35 fxFi35 fxFj35 fxFn36 fxFm36 fxFb36 fxFi36 fxFj36 fxFn37 fxFm37 fxFb37 fxFi37 fxFj37 fxFn38 fxFm38 fxFb38 fxFi38 fxFj38 fxFn39 fxFm39 fxFb39 fxFi39 fxFj39 fxFn40 fxFm40 fxFb40 fxFi40 fxFj40 fxFn41 fxFm41 fxFb41 fxFi41 fxFj41 fxFn42 fxFm42 fxFb42 fxFi42 fxFj42 fxFn43 fxFm43 fxFb43 fxFi43 fxFj43 fxFn44 fxFm44 fxFb44 fxFi44 fxFj44 fxFn45 fxFm45 fxFb45 fxFi45 fxFj45 fxFn46 fxFm46 fxFb46 fxFi46 fxFj46 fxFn47 fxFm47 fxFb47 fxFi47 fxFj47 fxFn48 fxFm48 fxFb48 fxFi48 fxFj48 fxFn49 fxFm49 fxFb49 fxFi49 fxFj49 fxFn50 fxFm50 fxFb50 fxFi50 fxFj50 fxFn51 fxFm51 fxFb51 fxFi51 fxFj51 fxFn52 fxFm52 fxFb52 fxFi52 fxFj52 fxFn53 fxFm53 fxFb53 fxFi53 fxFj53 fxFn54 fxFm54 fxFb54 fxFi54 fxFj54 fxFn55 fxFm55 fxFb55 fxFi55 fxFj55 fxFn56 fxFm56 fxFb56 fxFi56 fxFj56 fxFn57 fxFm57 fxFb57 fxFi57 fxFj57 fxFn58 fxFm58 fxFb58 fxFi58 fxFj58 fxFn59 fxFm59 fxFb59 fxFi59 fxFj59 fxFn60 fxFm60 fxFb60 fxFi60 fxFj60 fxFn61 fxFm61 fxFb61 fxFi61 fxFj61 fxFn62 fxFm62 fxFb62 fxFi62 fxFj62 fxFn63 fxFm63 fxFb63 fxFi63 fxFj63 fxFn64 fxFm64 fxFb64 fxFi64 fxFj64 fxFn65 fxFm65 fxFb65 fxFi65 fxFj65 fxFn66 fxFm66 fxFb66 fxFi66 fxFj66 fxFn67 fxFm67 fxFb67 fxFi67 fxFj67 fxFn68 fxFm68 fxFb68 fxFi68 fxFj68 fxFn69 fxFm69 fxFb69 fxFi69 fxFj69 fxFn70 fxFm70 fxFb70 fxFi70 fxFj70 fxFn71 fxFm71 fxFb71 fxFi71 fxFj71 fxFn72 fxFm72 fxFb72 fxFi72 fxFj72 fxFn73 fxFm73 fxFb73 fxFi73 fxFj73 fxFn74 fxFm74 fxFb74 fxFi74 fxFj74 fxFn75 fxFm75 fxFb75 fxFi75 fxFj75 fxFn76 fxFm76 fxFb76 fxFi76 fxFj76 fxFn77 fxFm77 fxFb77 fxFi77 fxFj77 fxFn78 fxFm78 fxFb78 fxFi78 fxFj78 fxFn79 fxFm79 fxFb79 fxFi79 fxFj79 fxFn80 fxFm80 fxFb80 fxFi80 fxFj80 fxFn81 fxFm81 fxFb81 fxFi81 fxFj81 fxFn82 fxFm82 fxFb82 fxFi82 fxFj82 fxFn83 fxFm83 fxFb83 fxFi83 fxFj83 fxFn84 fxFm84 fxFb84 fxFi84 fxFj84 fxFn85 fxFm85 fxFb85 fxFi85 fxFj85 fxFn86 fxFm86 fxFb86 fxFi86 fxFj86 fxFn87 fxFm87 fxFb87 fxFi87 fxFj87 fxFn88 fxFm88 fxFb88 fxFi88 fxFj88 fxFn89 fxFm89 fxFb89 fxFi89 fxFj89 fxFn90 fxFm90 fxFb90 fxFi90 fxFj90 fxFn91 fxFm91 fxFb91 fxFi91 fxFj91 fxFn92 fxFm92 fxFb92 fxFi92 fxFj92 fxFn93 fxFm93 fxFb93 fxFi93 fxFj93 fxFn94 fxFm94 fxFb94 fxFi94 fxFj94 fxFn95 fxFm95 fxFb95 fxFi95 fxFj95 fxFn96 fxFm96 fxFb96 fxFi96 fxFj96 fxFn97 fxFm97 fxFb97 fxFi97 fxFj97 fxFn98 fxFm98 fxFb98 fxFi98 fxFj98 fxFn99 fxFm99 fxFb99 fxFi99 fxFj99 fxFn100 fxFm100 fxFb100 fxFi100 fxFj100 fxFn101 fxFm101 fxFb101 fxFi101 fxFj101 fxFn102 fxFm102 fxFb102 fxFi102 fxFj102 fxFn103 fxFm103 fxFb103 fxFi103 fxFj103 fxFn104 fxFm104 fxFb104 fxFi104 fxFj104 fxFn105 fxFm105 fxFb105 fxFi105 fxFj105 fxFn106 fxFm106 fxFb106 fxFi106 fxFj106 fxFn107 fxFm107 fxFb107 fxFi107 fxFj107 fxFn108 fxFm108 fxFb108 fxFi108 fxFj108 fxFn109 fxFm109 fxFb109 fxFi109 fxFj109 fxFn110 fxFm110 fxFb110 fxFi110 fxFj110 fxFn111 fxFm111 fxFb111 fxFi111 fxFj111 fxFn112 fxFm112 fxFb112 fxFi112 fxFj112 fxFn113 fxFm113 fxFb113 fxFi113 fxFj113 fxFn114 fxFm114 fxFb114 fxFi114 fxFj114 fxFn115 fxFm115 fxFb115 fxFi115 fxFj115 fxFn116 fxFm116 fxFb116 fxFi116 fxFj116 fxFn117 fxFm117 fxFb117 fxFi117 fxFj117 fxFn118 fxFm118 fxFb118 fxFi118 fxFj118 fxFn119 fxFm119 fxFb119 fxFi119 fxFj119 fxFn120 fxFm120 fxFb120 fxFi120 fxFj120 fxFn121 fxFm121 fxFb121 fxFi121 fxFj121 fxFn122 fxFm122 fxFb122 fxFi122 fxFj122 fxFn123 fxFm123 fxFb123 fxFi123 fxFj123 fxFn124 fxFm124 fxFb124 fxFi124 fxFj124 fxFn125 fxFm125 fxFb125 fxFi125 fxFj125 fxFn126 fxFm126 fxFb126 fxFi126 fxFj126 fxFn127 fxFm127 fxFb127 fxFi127 fxFj127 fxFn128 fxFm128 fxFb128 fxFi128 fxFj128 fxFn129 fxFm129 fxFb129 fxFi129 fxFj129 fxFn130 fxFm130 fxFb130 fxFi130 fxFj130 fxFn131 fxFm131 fxFb131 fxFi131 fxFj131 fxFn132 fxFm132 fxFb132 fxFi132 fxFj132 fxFn133 fxFm133 fxFb133 fxFi133 fxFj133 fxFn134 fxFm134 fxFb134 fxFi134 fxFj134 fxFn135 fxFm135 fxFb135 fxFi135 fxFj135 fxFn136 fxFm136 fxFb136 fxFi136 fxFj136 fxFn137 fxFm137 fxFb137 fxFi137 fxFj137 fxFn138 fxFm138 fxFb138 fxFi138 fxFj138 fxFn139 fxFm139 fxFb139 fxFi139 fxFj139 fxFn140 fxFm140 fxFb140 fxFi140 fxFj140 fxFn141 fxFm141 fxFb141 fxFi141 fxFj141 fxFn142 fxFm142 fxFb142 fxFi142 fxFj142 fxFn143 fxFm143 fxFb143 fxFi143 fxFj143 fxFn144 fxFm144 fxFb144 fxFi144 fxFj144 fxFn145 fxFm145 fxFb145 fxFi145 fxFj145 fxFn146 fxFm146 fxFb146 fxFi146 fxFj146 fxFn147 fxFm147 fxFb147 fxFi147 fxFj147 fxFn148 fxFm148 fxFb148 fxFi148 fxFj148 fxFn149 fxFm149 fxFb149 fxFi149 fxFj149 fxFn150 fxFm150 fxFb150 fxFi150 fxFj150 fxFn151 fxFm151 fxFb151 fxFi151 fxFj151 fxFn152 fxFm152 fxFb152 fxFi152 fxFj152 fxFn153 fxFm153 fxFb153 fxFi153 fxFj153 fxFn154 fxFm154 fxFb154 fxFi154 fxFj154 fxFn155 fxFm155 fxFb155 fxFi155 fxFj155 fxFn156 fxFm156 fxFn157 fxFm157 fxFb157 fxFi157 fxFj157 fxFn158 fxFm158 fxFb158 fxFi158 fxFj158 fxFn159 fxFm159 fxFb159 fxFi159 fxFj159 fxFn160 fxFm160 fxFb160 fxFi160 fxFj160 fxFn161 fxFm161 fxFn162 fxFm162 fxFb162 fxFi162 fxFj162 fxFn163 fxFm163 fxFb163 fxFi163 fxFj163 fxFn164 fxFm164 fxFb164 fxFi164 fxFj164 fxFn165 fxFm165 fxFb165 fxFi165 fxFj165 fxFn166 fxFm166 fxFb166 fxFi166 fxFj166 fxFn167 fxFm167 fxFb167 fxFi167 fxFj167 fxFn168 fxFm168 fxFb168 fxFi168 fxFj168 fxFn169 fxFm169 fxFb169 fxFi169 fxFj169 fxFn170 fxFm170 fxFb170 fxFi170 fxFj170 fxFn171 fxFm171 fxFb171 fxFi171 fxFj171 fxFn172 fxFm172 fxFb172 fxFi172 fxFj172 fxFn173 fxFm173 fxFn174 fxFm174 fxFb174 fxFi174 fxFj174 fxFn175 fxFm175 fxFb175 fxFi175 fxFj175 fxFn176 fxFm176 fxFb176 fxFi176 fxFj176 fxFn177 fxFm177 fxFb177 fxFi177 fxFj177 fxFn178 fxFm178 fxFb178 fxFi178 fxFj178 fxFn179 fxFm179 fxFb179 fxFi179 fxFj179 fxFn180 fxFm180 fxFn181 fxFm181 fxFb181 fxFi181 fxFj181 fxFn182 fxFm182 fxFb182 fxFi182 fxFj182 fxFn183 fxFm183 fxFn184 fxFm184 fxFb184 fxFi184 fxFj184 fxFn185 fxFm185 fxFb185 fxFi185 fxFj185 fxFn186 fxFm186 fxFb186 fxFi186 fxFj186 fxFn187 fxFm187 fxFb187 fxFi187 fxFj187 fxFn188 fxFm188 fxFb188 fxFi188 fxFj188 fxFn189 fxFm189 fxFb189 fxFi189 fxFj189 fxFn190 fxFm190 fxFb190 fxFi190 fxFj190 fxFn191 fxFm191 fxFn192 fxFm192 fxFb192 fxFi192 fxFj192 fxFn193 fxFm193 fxFb193 fxFi193 fxFj193 fxFn194 fxFm194 fxFb194 fxFi194 fxFj194 fxFn195 fxFm195 fxFb195 fxFi195 fxFj195 fxFn196 fxFm196 fxFb196 fxFi196 fxFj196 fxFn197 fxFm197 fxFb197 fxFi197 fxFj197 fxFn198 fxFm198 fxFb198 fxFi198 fxFj198 fxFn199 fxFm199 fxFb199 fxFi199 fxFj199 fxFn200 fxFm200 fxFb200 fxFi200 fxFj200 fxFn201 fxFm201 fxFn202 fxFm202 fxFb202 fxFi202 fxFj202 fxFn203 fxFm203 fxFb203 fxFi203 fxFj203 fxFn204 fxFm204 fxFb204 fxFi204 fxFj204 fxFn205 fxFm205 fxFb205 fxFi205 fxFj205 fxFn206 fxFm206 fxFb206 fxFi206 fxFj206 fxFn207 fxFm207 fxFb207 fxFi207 fxFj207 fxFn208 fxFm208 fxFb208 fxFi208 fxFj208 fxFn209 fxFm209 fxFb209 fxFi209 fxFj209 fxFn210 fxFm210 fxFb210 fxFi210 fxFj210 fxFn211 fxFm211 fxFb211 fxFi211 fxFj211 fxFn212 fxFm212 fxFb212 fxFi212 fxFj212 fxFn213 fxFm213 fxFb213 fxFi213 fxFj213 fxFn214 fxFm214 fxFb214 fxFi214 fxFj214 fxFn215 fxFm215 fxFb215 fxFi215 fxFj215 fxFn216 fxFm216 fxFb216 fxFi216 fxFj216 fxFn217 fxFm217 fxFb217 fxFi217 fxFj217 fxFn218 fxFm218 fxFb218 fxFi218 fxFj218 fxFn219 fxFm219 fxFb219 fxFi219 fxFj219 fxFn220 fxFm220 fxFb220 fxFi220 fxFj220 fxFn221 fxFm221 fxFb221 fxFi221 fxFj221 fxFn222 fxFm222 fxFb222 fxFi222 fxFj222 fxFn223 fxFm223 fxFb223 fxFi223 fxFj223 fxFn224 fxFm224 fxFb224 fxFi224 fxFj224 fxFn225 fxFm225 fxFb225 fxFi225 fxFj225 fxFn226 fxFm226 fxFb226 fxFi226 fxFj226 fxFn227 fxFm227 fxFb227 fxFi227 fxFj227 fxFn228 fxFm228 fxFb228 fxFi228 fxFj228 fxFn229 fxFm229 fxFb229 fxFi229 fxFj229 fxFn230 fxFm230 fxFb230 fxFi230 fxFj230 fxFn231 fxFm231 fxFb231 fxFi231 fxFj231 fxFn232 fxFm232 fxFb232 fxFi232 fxFj232 fxFn233 fxFm233 fxFb233 fxFi233 fxFj233 fxFn234 fxFm234 fxFb234 fxFi234 fxFj234
section
structure Pg where
  b0 : Int
  b1 : Int
  b2 : Int
  b3 : Int
  b4 : Int
  b5 : Int
  b6 : Int
  b7 : Int
  b8 : Int
  b9 : Int
  b10 : Int
  b11 : Int
  b12 : Int
  b13 : Int
  b14 : Int
  b15 : Int
  deriving DecidableEq
def pgDec : Row → Option Pg
  | [.v (.int .u8 x0), .v (.int .u8 x1), .v (.int .u8 x2), .v (.int .u8 x3), .v (.int .u8 x4), .v (.int .u8 x5), .v (.int .u8 x6), .v (.int .u8 x7), .v (.int .u8 x8), .v (.int .u8 x9), .v (.int .u8 x10), .v (.int .u8 x11), .v (.int .u8 x12), .v (.int .u8 x13), .v (.int .u8 x14), .v (.int .u8 x15)] => some ⟨x0, x1, x2, x3, x4, x5, x6, x7, x8, x9, x10, x11, x12, x13, x14, x15⟩
  | _ => none
def Pg.row (e : Pg) : Row := [.v (.int .u8 e.b0), .v (.int .u8 e.b1), .v (.int .u8 e.b2), .v (.int .u8 e.b3), .v (.int .u8 e.b4), .v (.int .u8 e.b5), .v (.int .u8 e.b6), .v (.int .u8 e.b7), .v (.int .u8 e.b8), .v (.int .u8 e.b9), .v (.int .u8 e.b10), .v (.int .u8 e.b11), .v (.int .u8 e.b12), .v (.int .u8 e.b13), .v (.int .u8 e.b14), .v (.int .u8 e.b15)]
def rPg : RCod Pg := RCod.plain 16 Pg.row pgDec
  (fun e => rfl) (fun _ => rfl) (fun r e h => by
    unfold pgDec at h
    split at h
    · simp at h; subst h; rfl
    · cases h)
def Pg.val (e : Pg) : Value := .agg #[.int .u8 e.b0, .int .u8 e.b1, .int .u8 e.b2, .int .u8 e.b3, .int .u8 e.b4, .int .u8 e.b5, .int .u8 e.b6, .int .u8 e.b7, .int .u8 e.b8, .int .u8 e.b9, .int .u8 e.b10, .int .u8 e.b11, .int .u8 e.b12, .int .u8 e.b13, .int .u8 e.b14, .int .u8 e.b15]
theorem Pg.eta (e : Pg) : Pg.mk e.b0 e.b1 e.b2 e.b3 e.b4 e.b5 e.b6 e.b7 e.b8 e.b9 e.b10 e.b11 e.b12 e.b13 e.b14 e.b15 = e := rfl
attribute [local simp] Pg.eta
theorem Pg.cold (l : List Pg) : coldR (l.map Pg.row) = l.map Pg.row := by
  induction l with
  | nil => simp [coldR]
  | cons e l ih => simp [coldR, coldC, AI.cold, ih, Pg.row]
theorem Pg.mapM (l : List Pg) : (l.map Pg.row).mapM pgDec = some l := mapM_dec rPg l
theorem Pg.mapMc (l : List Pg) : l.mapM (pgDec ∘ Pg.row) = some l := mapM_dec' rPg l
theorem Pg.view (H : Heap) (n : Nat) (e : Pg) : List.map (AI.view H n) e.row = e.row := by cases n <;> simp [Pg.row, AI.view]
theorem Pg.viewc (H : Heap) (n : Nat) : List.map (AI.view H n) ∘ Pg.row = Pg.row := by funext e; exact Pg.view H n e
theorem Pg.hotR (l : List Pg) : AI.hotR (l.map Pg.row) = true := by
  induction l with
  | nil => simp [AI.hotR]
  | cons e l ih => simp [AI.hotR, hotC, hot, ih, Pg.row]
theorem Pg.ren (n : Nat) (th : List Nat) (e : Pg) : List.map (AI.ren n th) e.row = e.row := by simp [Pg.row, AI.ren]
theorem Pg.renc (n : Nat) (th : List Nat) : List.map (AI.ren n th) ∘ Pg.row = Pg.row := by funext e; exact Pg.ren n th e
theorem Pg.low (n : Nat) (e : Pg) : e.row.all (lowA n) = true := by simp [Pg.row, lowA]
theorem Pg.tau (fp : List Nat) (n : Nat) (e : Pg) : List.map (AI.tau fp n) e.row = e.row := by simp [Pg.row, AI.tau]
theorem Pg.tauc (fp : List Nat) (n : Nat) : List.map (AI.tau fp n) ∘ Pg.row = Pg.row := by funext e; exact Pg.tau fp n e
theorem Pg.bare (e : Pg) : e.row.all bareA = true := by simp [Pg.row, bareA]
theorem Pg.flat (l : List Pg) : flat0 (l.map Pg.row) = true := by simp [flat0, Pg.low]
theorem Pg.flat1 (e : Pg) : flat0 [e.row] = true := by simp [flat0, Pg.low]
theorem Pg.exact : Exact rPg := by
  intro r e h
  simp only [rPg, RCod.plain] at h ⊢
  unfold pgDec at h
  split at h
  · simp at h; subst h; rfl
  · cases h
theorem Pg.mapMt (k : Nat) (l : List Pg) : (List.take k (l.map Pg.row)).mapM pgDec = some (l.take k) := by rw [← List.map_take]; exact mapM_dec rPg _
theorem Pg.mapMd (k : Nat) (l : List Pg) : (List.drop k (l.map Pg.row)).mapM pgDec = some (l.drop k) := by rw [← List.map_drop]; exact mapM_dec rPg _
theorem Pg.coldt (k : Nat) (l : List Pg) : coldR (List.take k (l.map Pg.row)) = List.take k (l.map Pg.row) := by rw [← List.map_take]; exact Pg.cold _
theorem Pg.coldd (k : Nat) (l : List Pg) : coldR (List.drop k (l.map Pg.row)) = List.drop k (l.map Pg.row) := by rw [← List.map_drop]; exact Pg.cold _
theorem Pg.hotRt (k : Nat) (l : List Pg) : AI.hotR (List.take k (l.map Pg.row)) = true := by rw [← List.map_take]; exact Pg.hotR _
theorem Pg.hotRd (k : Nat) (l : List Pg) : AI.hotR (List.drop k (l.map Pg.row)) = true := by rw [← List.map_drop]; exact Pg.hotR _
attribute [local simp] Pg.hotRt Pg.hotRd
attribute [local simp] Pg.tau Pg.tauc Pg.bare Pg.flat Pg.flat1 Pg.mapMt Pg.mapMd Pg.coldt Pg.coldd
attribute [local simp] Pg.cold Pg.mapM Pg.mapMc Pg.view Pg.viewc Pg.hotR Pg.ren Pg.renc Pg.low
structure Pp where
  file : Int
  n : Int
  maps : Int
  dirty : Int
  data : Pg
  deriving DecidableEq
def ppDec : Row → Option Pp
  | [.v (.int .i64 x0), .v (.int .i64 x1), .v (.int .i64 x2), .v (.int .i64 x3), .v (.int .u8 x4), .v (.int .u8 x5), .v (.int .u8 x6), .v (.int .u8 x7), .v (.int .u8 x8), .v (.int .u8 x9), .v (.int .u8 x10), .v (.int .u8 x11), .v (.int .u8 x12), .v (.int .u8 x13), .v (.int .u8 x14), .v (.int .u8 x15), .v (.int .u8 x16), .v (.int .u8 x17), .v (.int .u8 x18), .v (.int .u8 x19)] => some ⟨x0, x1, x2, x3, ⟨x4, x5, x6, x7, x8, x9, x10, x11, x12, x13, x14, x15, x16, x17, x18, x19⟩⟩
  | _ => none
def Pp.row (e : Pp) : Row := [.v (.int .i64 e.file), .v (.int .i64 e.n), .v (.int .i64 e.maps), .v (.int .i64 e.dirty), .v (.int .u8 e.data.b0), .v (.int .u8 e.data.b1), .v (.int .u8 e.data.b2), .v (.int .u8 e.data.b3), .v (.int .u8 e.data.b4), .v (.int .u8 e.data.b5), .v (.int .u8 e.data.b6), .v (.int .u8 e.data.b7), .v (.int .u8 e.data.b8), .v (.int .u8 e.data.b9), .v (.int .u8 e.data.b10), .v (.int .u8 e.data.b11), .v (.int .u8 e.data.b12), .v (.int .u8 e.data.b13), .v (.int .u8 e.data.b14), .v (.int .u8 e.data.b15)]
def rPp : RCod Pp := RCod.plain 20 Pp.row ppDec
  (fun e => rfl) (fun _ => rfl) (fun r e h => by
    unfold ppDec at h
    split at h
    · simp at h; subst h; rfl
    · cases h)
def Pp.val (e : Pp) : Value := .agg #[.int .i64 e.file, .int .i64 e.n, .int .i64 e.maps, .int .i64 e.dirty, .int .u8 e.data.b0, .int .u8 e.data.b1, .int .u8 e.data.b2, .int .u8 e.data.b3, .int .u8 e.data.b4, .int .u8 e.data.b5, .int .u8 e.data.b6, .int .u8 e.data.b7, .int .u8 e.data.b8, .int .u8 e.data.b9, .int .u8 e.data.b10, .int .u8 e.data.b11, .int .u8 e.data.b12, .int .u8 e.data.b13, .int .u8 e.data.b14, .int .u8 e.data.b15]
theorem Pp.eta (e : Pp) : Pp.mk e.file e.n e.maps e.dirty e.data = e := rfl
attribute [local simp] Pp.eta
theorem Pp.cold (l : List Pp) : coldR (l.map Pp.row) = l.map Pp.row := by
  induction l with
  | nil => simp [coldR]
  | cons e l ih => simp [coldR, coldC, AI.cold, ih, Pp.row]
theorem Pp.mapM (l : List Pp) : (l.map Pp.row).mapM ppDec = some l := mapM_dec rPp l
theorem Pp.mapMc (l : List Pp) : l.mapM (ppDec ∘ Pp.row) = some l := mapM_dec' rPp l
theorem Pp.view (H : Heap) (n : Nat) (e : Pp) : List.map (AI.view H n) e.row = e.row := by cases n <;> simp [Pp.row, AI.view]
theorem Pp.viewc (H : Heap) (n : Nat) : List.map (AI.view H n) ∘ Pp.row = Pp.row := by funext e; exact Pp.view H n e
theorem Pp.hotR (l : List Pp) : AI.hotR (l.map Pp.row) = true := by
  induction l with
  | nil => simp [AI.hotR]
  | cons e l ih => simp [AI.hotR, hotC, hot, ih, Pp.row]
theorem Pp.ren (n : Nat) (th : List Nat) (e : Pp) : List.map (AI.ren n th) e.row = e.row := by simp [Pp.row, AI.ren]
theorem Pp.renc (n : Nat) (th : List Nat) : List.map (AI.ren n th) ∘ Pp.row = Pp.row := by funext e; exact Pp.ren n th e
theorem Pp.low (n : Nat) (e : Pp) : e.row.all (lowA n) = true := by simp [Pp.row, lowA]
theorem Pp.tau (fp : List Nat) (n : Nat) (e : Pp) : List.map (AI.tau fp n) e.row = e.row := by simp [Pp.row, AI.tau]
theorem Pp.tauc (fp : List Nat) (n : Nat) : List.map (AI.tau fp n) ∘ Pp.row = Pp.row := by funext e; exact Pp.tau fp n e
theorem Pp.bare (e : Pp) : e.row.all bareA = true := by simp [Pp.row, bareA]
theorem Pp.flat (l : List Pp) : flat0 (l.map Pp.row) = true := by simp [flat0, Pp.low]
theorem Pp.flat1 (e : Pp) : flat0 [e.row] = true := by simp [flat0, Pp.low]
theorem Pp.exact : Exact rPp := by
  intro r e h
  simp only [rPp, RCod.plain] at h ⊢
  unfold ppDec at h
  split at h
  · simp at h; subst h; rfl
  · cases h
theorem Pp.mapMt (k : Nat) (l : List Pp) : (List.take k (l.map Pp.row)).mapM ppDec = some (l.take k) := by rw [← List.map_take]; exact mapM_dec rPp _
theorem Pp.mapMd (k : Nat) (l : List Pp) : (List.drop k (l.map Pp.row)).mapM ppDec = some (l.drop k) := by rw [← List.map_drop]; exact mapM_dec rPp _
theorem Pp.coldt (k : Nat) (l : List Pp) : coldR (List.take k (l.map Pp.row)) = List.take k (l.map Pp.row) := by rw [← List.map_take]; exact Pp.cold _
theorem Pp.coldd (k : Nat) (l : List Pp) : coldR (List.drop k (l.map Pp.row)) = List.drop k (l.map Pp.row) := by rw [← List.map_drop]; exact Pp.cold _
theorem Pp.hotRt (k : Nat) (l : List Pp) : AI.hotR (List.take k (l.map Pp.row)) = true := by rw [← List.map_take]; exact Pp.hotR _
theorem Pp.hotRd (k : Nat) (l : List Pp) : AI.hotR (List.drop k (l.map Pp.row)) = true := by rw [← List.map_drop]; exact Pp.hotR _
attribute [local simp] Pp.hotRt Pp.hotRd
attribute [local simp] Pp.tau Pp.tauc Pp.bare Pp.flat Pp.flat1 Pp.mapMt Pp.mapMd Pp.coldt Pp.coldd
attribute [local simp] Pp.cold Pp.mapM Pp.mapMc Pp.view Pp.viewc Pp.hotR Pp.ren Pp.renc Pp.low
structure Ca where
  pages : List Pp
  clock : Int
  deriving DecidableEq
def caDec : Row → Option Ca
  | [a0, .v (.int .i64 x1)] => match slDec rPp a0 with | some x0 => some ⟨x0, x1⟩ | _ => none
  | _ => none
def Ca.row (e : Ca) : Row := [.fsl false 20 (e.pages.map Pp.row), .v (.int .i64 e.clock)]
def Ca.hrow (e : Ca) : Row := [.fsl true 20 (e.pages.map Pp.row), .v (.int .i64 e.clock)]
theorem Ca.eta (e : Ca) : Ca.mk e.pages e.clock = e := rfl
theorem Ca.dec_row (e : Ca) : caDec e.row = some e := by
  have h0 := (cSl rPp).de e.pages
  simp only [cSl] at h0
  simp only [caDec, Ca.row]
  erw [h0]
theorem Ca.dec_hrow (e : Ca) : caDec e.hrow = some e := Ca.dec_row e
def rCa : RCod Ca where
  sz := 2
  enc := Ca.row
  dec := caDec
  de := Ca.dec_row
  len _ := rfl
  ok := by
    intro r e h β ok w n x hok hr
    unfold caDec at h
    split at h
    · split at h
      · rename_i h0
        simp at h
        subst h
        refine ⟨rfl, fun j c hj => ?_⟩
        match j, hj with
        | 0, hj => simp [Ca.row] at hj; subst hj; exact (cSl rPp).ok h0 hok (hr 0 _ rfl)
        | 1, hj => simp [Ca.row] at hj; subst hj; exact hr 1 _ rfl
        | j + 2, hj => simp [Ca.row] at hj
      · cases h
    · cases h
theorem Ca.cold (l : List Ca) : coldR (l.map Ca.row) = l.map Ca.row := by
  induction l with
  | nil => simp [coldR]
  | cons e l ih => simp [coldR, coldC, AI.cold, ih, Ca.row, Pp.cold, irow_cold]
theorem Ca.hcold (l : List Ca) : coldR (l.map Ca.hrow) = l.map Ca.row := by
  induction l with
  | nil => simp [coldR]
  | cons e l ih => simp [coldR, coldC, AI.cold, ih, Ca.row, Ca.hrow, Pp.cold, irow_cold]
theorem Ca.mapM (l : List Ca) : (l.map Ca.row).mapM caDec = some l := mapM_dec rCa l
theorem Ca.mapMc (l : List Ca) : l.mapM (caDec ∘ Ca.row) = some l := mapM_dec' rCa l
theorem Ca.hmapM (l : List Ca) : (l.map Ca.hrow).mapM caDec = some l := by
  rw [List.mapM_map]
  have : caDec ∘ Ca.hrow = caDec ∘ Ca.row := by funext e; simp [Function.comp, Ca.dec_row, Ca.dec_hrow]
  rw [this]; exact Ca.mapMc l
theorem Ca.hmapMc (l : List Ca) : l.mapM (caDec ∘ Ca.hrow) = some l := by
  have := Ca.hmapM l
  rwa [List.mapM_map] at this
theorem Ca.view (H : Heap) (n : Nat) (e : Ca) : List.map (AI.view H n) e.row = e.row := by cases n <;> simp [Ca.row, AI.view]
theorem Ca.viewc (H : Heap) (n : Nat) : List.map (AI.view H n) ∘ Ca.row = Ca.row := by funext e; exact Ca.view H n e
theorem Ca.hview (H : Heap) (n : Nat) (e : Ca) : List.map (AI.view H n) e.hrow = e.hrow := by cases n <;> simp [Ca.hrow, AI.view]
theorem Ca.hviewc (H : Heap) (n : Nat) : List.map (AI.view H n) ∘ Ca.hrow = Ca.hrow := by funext e; exact Ca.hview H n e
theorem Ca.hotR (l : List Ca) : AI.hotR (l.map Ca.hrow) = true := by
  induction l with
  | nil => simp [AI.hotR]
  | cons e l ih => simp [AI.hotR, hotC, hot, ih, Ca.hrow, Pp.hotR, irow_hotR]
theorem Ca.ren (n : Nat) (th : List Nat) (e : Ca) : List.map (AI.ren n th) e.row = e.row := by simp [Ca.row, AI.ren]
theorem Ca.renc (n : Nat) (th : List Nat) : List.map (AI.ren n th) ∘ Ca.row = Ca.row := by funext e; exact Ca.ren n th e
theorem Ca.low (n : Nat) (e : Ca) : e.row.all (lowA n) = true := by simp [Ca.row, lowA]
theorem Ca.hlow (n : Nat) (e : Ca) : e.hrow.all (lowA n) = true := by simp [Ca.hrow, lowA]
attribute [local simp] Ca.hlow Ca.eta Ca.dec_row Ca.dec_hrow Ca.cold Ca.hcold Ca.mapM Ca.mapMc Ca.hmapM Ca.hmapMc Ca.view Ca.viewc Ca.hview Ca.hviewc Ca.hotR Ca.ren Ca.renc Ca.low

def noPg : Pg := ⟨0, 0, 0, 0, 0, 0, 0, 0, 0, 0, 0, 0, 0, 0, 0, 0⟩
def rightP (f n : Int) : Bool := decide (1 ≤ f ∧ f ≤ 32 ∧ 0 ≤ n ∧ n < 32)
theorem right_pure : PureOk Try.prog 158 (argM (cInt .i64) fun f => argM (cInt .i64) fun n => finM (some (.v (.bool (rightP f n))))) := by
  refine pure2 Try.func158 rfl ?_
  rintro f n r hr
  simp only [Option.some.injEq] at hr
  subst hr
  refine body_gen noOrc_ok fxMix (by kernel_rfl) (by simp [Try.ntmps158]) ?_
  intro C cP cI cN cD cF cA cR cL
  replace cI : C.inl = fun _ => false := cI
  replace cR : C.rd = fun _ => none := cR
  replace cD : C.dyn = fun _ => [] := cD
  clear cP cN cF cA
  unfold rightP
  by_cases h1 : 1 ≤ f <;> by_cases h2 : f ≤ 32 <;> by_cases h3 : 0 ≤ n <;> by_cases h4 : n < 32 <;> simp [Try.ntmps158, Try.results158, cSl, cI, cD, cR, h1, h2, h3, h4]
theorem nan_pure : PureOk Try.prog 206 (argM (cInt .i64) fun x => finM (some (.v (.bool false)))) := by
  refine pure1 Try.func206 rfl ?_
  rintro x r hr
  simp only [Option.some.injEq] at hr
  subst hr
  refine body_gen noOrc_ok fxMix (by kernel_rfl) (by simp [Try.ntmps206]) ?_
  intro C cP cI cN cD cF cA cR cL
  replace cI : C.inl = fun _ => false := cI
  replace cR : C.rd = fun _ => none := cR
  replace cD : C.dyn = fun _ => [] := cD
  clear cP cN cF cA
  simp [Try.ntmps206, Try.results206, cSl, cI, cD, cR]
def cmpI (x y : Int) : Int := if x < y then -1 else if y < x then 1 else 0
theorem cmp_pure : PureOk Try.prog 190 (argM (cInt .i64) fun x => argM (cInt .i64) fun y => finM (some (.v (.int .i64 (cmpI x y))))) := by
  refine pure2 Try.func190 rfl ?_
  rintro x y r hr
  simp only [Option.some.injEq] at hr
  subst hr
  refine body_gen (noOrc_ok.withP nan_pure) fxMix (by kernel_rfl) (by simp [Try.ntmps190]) ?_
  intro C cP cI cN cD cF cA cR cL
  have cp0 := orcP nan_pure (C := C) (by rw [cP]; rfl)
  replace cI : C.inl = fun _ => false := cI
  replace cR : C.rd = fun _ => none := cR
  replace cD : C.dyn = fun _ => [] := cD
  clear cP cN cF cA
  unfold cmpI
  by_cases h1 : x < y
  · simp [Try.ntmps190, Try.results190, cSl, cp0, cI, cD, cR, h1]
  · by_cases h2 : y < x
    · simp [Try.ntmps190, Try.results190, cSl, cp0, cI, cD, cR, h1, h2]
    · simp [Try.ntmps190, Try.results190, cSl, cp0, cI, cD, cR, h1, h2]
def orI : List Int → Int
  | [] => 0
  | x :: r => if x = 0 then orI r else x
theorem or_pure : PureOk Try.prog 189 (argM (cSl (rI .i64)) fun l => finM (if l.length ≤ 4294967296 then some (.v (.int .i64 (orI l))) else none)) := by
  refine pure1 Try.func189 rfl ?_
  rintro l r hr
  by_cases hc : l.length ≤ 4294967296
  case neg => rw [if_neg hc] at hr; cases hr
  rw [if_pos hc] at hr
  simp only [Option.some.injEq] at hr
  subst hr
  refine body_gen noOrc_ok fxMix (by kernel_rfl) (by simp [Try.ntmps189]) ?_
  intro C cP cI cN cD cF cA cR cL
  replace cI : C.inl = fun _ => false := cI
  replace cR : C.rd = fun _ => none := cR
  replace cD : C.dyn = fun _ => [] := cD
  clear cP cN cF cA
  simp [Try.ntmps189, Try.results189, cSl, cI, cD, cR, rI]
  refine loop_for l.length (fun k (_ : Unit) => ([(3, .v (.int .i64 0)), (6, .fsl false 1 (l.map (irow .i64))), (7, .v (.int .i64 l.length)), (8, .v (.int .i64 k))], [])) (fun k _ => orI (l.drop k) = orI l) () hc (by simp) (by simp) ?_ ?_
  · intro k _ hk hall hw
    rw [List.drop_eq_getElem_cons hk, orI] at hall
    by_cases q : l[k] = 0
    · rw [if_pos q] at hall
      simp [Try.ntmps189, Try.results189, cSl, cI, cD, cR, hk, irow, hw, q]
      exact hall
    · rw [if_neg q] at hall
      simp [Try.ntmps189, Try.results189, cSl, cI, cD, cR, hk, irow, hw, q, hall]
      intro h
      exact absurd (hall.trans h) q
  · intro _ hall
    simp [orI] at hall
    simp [Try.ntmps189, Try.results189, cSl, cI, cD, cR, ← hall]
def ordK (a : Pp) (f n : Int) : Int := if a.file = f then cmpI a.n n else cmpI a.file f
theorem cmpI_zero {x y : Int} : cmpI x y = 0 ↔ x = y := by unfold cmpI; split <;> (try split) <;> simp <;> omega
theorem ordK_or (a b : Pp) : orI [cmpI a.file b.file, cmpI a.n b.n] = ordK a b.file b.n := by
  unfold ordK
  simp only [orI, cmpI_zero]
  split
  · split
    · rename_i h; exact (cmpI_zero.2 h).symm
    · rfl
  · rfl
theorem order_pure : PureOk Try.prog 160 (argM (cAgg rPp) fun a => argM (cAgg rPp) fun b => finM (some (.v (.int .i64 (ordK a b.file b.n))))) := by
  refine pure2 Try.func160 rfl ?_
  rintro a b r hr
  simp only [Option.some.injEq] at hr
  subst hr
  refine body_gen ((noOrc_ok.withP or_pure).withP cmp_pure) fxMix (by kernel_rfl) (by simp [Try.ntmps160]) ?_
  intro C cP cI cN cD cF cA cR cL
  have cp0 := orcP or_pure (C := C) (by rw [cP]; rfl)
  have cp1 := orcP cmp_pure (C := C) (by rw [cP]; rfl)
  replace cI : C.inl = fun _ => false := cI
  replace cR : C.rd = fun _ => none := cR
  replace cD : C.dyn = fun _ => [] := cD
  clear cP cN cF cA
  simp [Try.ntmps160, Try.results160, cSl, cp0, cp1, cI, cD, cR, rPp, Pp.row, rI, irow, irowDec, ordK_or]
end
end
section
theorem ordK_lt {a : Pp} {f n : Int} : ordK a f n < 0 ↔ (a.file < f ∨ (a.file = f ∧ a.n < n)) := by
  unfold ordK cmpI
  repeat' split
  all_goals omega
theorem ordK_zero {a : Pp} {f n : Int} : ordK a f n = 0 ↔ (a.file = f ∧ a.n = n) := by
  unfold ordK cmpI
  repeat' split
  all_goals omega
def LtK (a b : Pp) : Prop := ordK a b.file b.n < 0
instance instLtK (a b : Pp) : Decidable (LtK a b) := inferInstanceAs (Decidable (ordK a b.file b.n < 0))
theorem LtK_iff {a b : Pp} : LtK a b ↔ (a.file < b.file ∨ (a.file = b.file ∧ a.n < b.n)) := ordK_lt
theorem LtK.tr {a b c : Pp} (h : LtK a b) (h2 : LtK b c) : LtK a c := by
  rw [LtK_iff] at h h2 ⊢
  omega
def DfK (a b : Pp) : Prop := 0 < b.dirty → a.dirty ≠ b.dirty
def badP (clock : Int) (p : Pp) : Bool := !(rightP p.file p.n) || decide (p.maps < 0 ∨ 64 < p.maps ∨ p.dirty < 0 ∨ clock ≤ p.dirty)
def badLast : Option Pp → Pp → Bool
  | some q, p => decide (0 ≤ ordK q p.file p.n)
  | none, _ => false
def seenB (s : List Pp) (d : Int) : Bool := s.any (fun q => decide (q.dirty = d))
def caGo (clock : Int) (seen : List Pp) : List Pp → Int
  | [] => 0
  | p :: r => if badP clock p = true then 1 else if (badLast seen.getLast? p || (decide (0 < p.dirty) && seenB seen p.dirty)) = true then 3 else caGo clock (seen ++ [p]) r
def caCheck (c : Ca) : Int := if 64 < c.pages.length then 2 else if c.clock < 1 ∨ 1073741824 < c.clock then 1 else caGo c.clock [] c.pages
structure Good (c : Ca) : Prop where
  len : c.pages.length ≤ 64
  c1 : 1 ≤ c.clock
  c2 : c.clock ≤ 1073741824
  each : ∀ p ∈ c.pages, badP c.clock p = false
  sorted : c.pages.Pairwise LtK
  diff : c.pages.Pairwise DfK
theorem badP_iff {k : Int} {p : Pp} : badP k p = false ↔ rightP p.file p.n = true ∧ 0 ≤ p.maps ∧ p.maps ≤ 64 ∧ 0 ≤ p.dirty ∧ p.dirty < k := by
  unfold badP
  simp only [Bool.or_eq_false_iff, Bool.not_eq_false', decide_eq_false_iff_not]
  constructor
  · rintro ⟨h, h2⟩; exact ⟨h, by omega⟩
  · rintro ⟨h, h2⟩; exact ⟨h, by omega⟩
theorem pw_snoc {α : Type} {R : α → α → Prop} {s : List α} {p : α} : (s ++ [p]).Pairwise R ↔ s.Pairwise R ∧ ∀ x ∈ s, R x p := by
  rw [List.pairwise_append]; simp
theorem pw_app {α : Type} {R : α → α → Prop} {s t : List α} (h : (s ++ t).Pairwise R) : s.Pairwise R := (List.pairwise_append.1 h).1
theorem sorted_snoc {s : List Pp} {p : Pp} (h : s.Pairwise LtK) : (∀ x ∈ s, LtK x p) ↔ badLast s.getLast? p = false := by
  rcases List.eq_nil_or_concat s with rfl | ⟨o, b, rfl⟩
  · simp [badLast]
  · simp only [List.concat_eq_append] at *
    simp only [List.getLast?_append, List.getLast?_singleton, Option.some_or, badLast, decide_eq_false_iff_not, Int.not_le]
    constructor
    · intro h; exact h b (by simp)
    · intro hb x hx
      rw [pw_snoc] at h
      simp at hx
      rcases hx with hx | rfl
      · exact (h.2 x hx).tr hb
      · exact hb
theorem seen_any {s : List Pp} {p : Pp} : (decide (0 < p.dirty) && seenB s p.dirty) = false ↔ ∀ x ∈ s, DfK x p := by
  unfold seenB DfK
  rw [Bool.and_eq_false_iff, decide_eq_false_iff_not, List.any_eq_false]
  simp only [decide_eq_true_eq]
  constructor
  · rintro (h | h) x hx h2
    · exact absurd h2 h
    · exact h x hx
  · intro h
    by_cases h2 : 0 < p.dirty
    · exact .inr fun x hx => h x hx h2
    · exact .inl h2
theorem caGo_iff {k : Int} {s r : List Pp} (hs : s.Pairwise LtK) (hd : s.Pairwise DfK) : caGo k s r = 0 ↔ (∀ p ∈ r, badP k p = false) ∧ (s ++ r).Pairwise LtK ∧ (s ++ r).Pairwise DfK := by
  induction r generalizing s with
  | nil => simp [caGo, hs, hd]
  | cons p r ih =>
    have e : s ++ p :: r = (s ++ [p]) ++ r := by simp
    simp only [caGo]
    by_cases h1 : badP k p = true
    · rw [if_pos h1]
      simp only [Int.reduceEq, false_iff]
      rintro ⟨h, _⟩
      have := h p (by simp)
      rw [h1] at this; cases this
    · rw [if_neg h1]
      simp only [Bool.not_eq_true] at h1
      by_cases h2 : (badLast s.getLast? p || (decide (0 < p.dirty) && seenB s p.dirty)) = true
      · rw [if_pos h2]
        simp only [Int.reduceEq, false_iff]
        rintro ⟨_, h, h'⟩
        rw [e] at h h'
        have a1 := (sorted_snoc hs).1 (pw_snoc.1 (pw_app h)).2
        have a2 := seen_any.2 (pw_snoc.1 (pw_app h')).2
        rw [a1, a2] at h2; cases h2
      · rw [if_neg h2]
        simp only [Bool.not_eq_true, Bool.or_eq_false_iff] at h2
        rw [ih (pw_snoc.2 ⟨hs, (sorted_snoc hs).2 h2.1⟩) (pw_snoc.2 ⟨hd, seen_any.1 h2.2⟩), e]
        simp [h1]
theorem caCheck_iff {c : Ca} : caCheck c = 0 ↔ Good c := by
  unfold caCheck
  split
  · rename_i h
    simp only [Int.reduceEq, false_iff]
    intro g
    have := g.len
    omega
  · rename_i h
    split
    · rename_i h2
      simp only [Int.reduceEq, false_iff]
      intro g
      have := g.c1; have := g.c2
      omega
    · rename_i h2
      rw [caGo_iff List.Pairwise.nil List.Pairwise.nil]
      constructor
      · rintro ⟨h3, h4, h5⟩
        exact ⟨by omega, by omega, by omega, h3, h4, h5⟩
      · intro g
        exact ⟨g.each, g.sorted, g.diff⟩
def caChk (c : Ca) (f n : Int) : Int := if caCheck c = 0 then (if rightP f n = true then 0 else 1) else caCheck c
theorem caChk_iff {c : Ca} {f n : Int} : caChk c f n = 0 ↔ Good c ∧ rightP f n = true := by
  unfold caChk
  rw [← caCheck_iff]
  split
  · rename_i h; split
    · rename_i h2; simp [h, h2]
    · rename_i h2; simp [h2]
  · rename_i h; simp [h]
/-- how many lie before a place -/
def lowG (l : List Pp) (f n : Int) : Nat := (l.takeWhile (fun x => decide (ordK x f n < 0))).length
theorem lowG_le (l : List Pp) (f n : Int) : lowG l f n ≤ l.length := by
  unfold lowG
  exact (List.takeWhile_sublist _).length_le
theorem lowG_iff {l : List Pp} {f n : Int} (h : l.Pairwise LtK) (i : Nat) (hi : i < l.length) : ordK l[i] f n < 0 ↔ i < lowG l f n := by
  unfold lowG
  induction l generalizing i with
  | nil => simp at hi
  | cons a l ih =>
    simp only [List.pairwise_cons] at h
    by_cases q : ordK a f n < 0
    · simp only [List.takeWhile_cons, q, decide_true, if_true, List.length_cons]
      cases i with
      | zero => simp [q]
      | succ i =>
        simp only [List.getElem_cons_succ]
        rw [ih h.2 i (by simpa using hi)]
        omega
    · simp only [List.takeWhile_cons, q, decide_false, Bool.false_eq_true, if_false, List.length_nil]
      simp only [Nat.not_lt_zero, iff_false]
      cases i with
      | zero => simpa using q
      | succ i =>
        simp only [List.getElem_cons_succ]
        intro hx
        apply q
        have hi' : i < l.length := by simpa using hi
        have h1 : LtK a l[i] := h.1 _ (List.getElem_mem hi')
        rw [LtK_iff] at h1
        rw [ordK_lt] at hx ⊢
        omega
def hasG (l : List Pp) (f n : Int) : Bool := match l[lowG l f n]? with | some x => decide (ordK x f n = 0) | none => false
theorem hasG_iff {l : List Pp} {f n : Int} : hasG l f n = true ↔ ∃ h : lowG l f n < l.length, l[lowG l f n].file = f ∧ l[lowG l f n].n = n := by
  unfold hasG
  by_cases h : lowG l f n < l.length
  · rw [List.getElem?_eq_getElem h]
    simp [h, ordK_zero]
  · rw [List.getElem?_eq_none (by omega)]
    simp [h]
/-- who has the place, is found -/
theorem low_at {l : List Pp} (h : l.Pairwise LtK) (i : Nat) (hi : i < l.length) : lowG l l[i].file l[i].n = i := by
  have h1 := lowG_iff (f := l[i].file) (n := l[i].n) h
  have h2 : ¬ i < lowG l l[i].file l[i].n := by
    rw [← h1 i hi, ordK_lt]; omega
  have h3 : ¬ lowG l l[i].file l[i].n < i := by
    intro hlt
    have h4 := (h1 (lowG l l[i].file l[i].n) (by omega)).mp
    have h5 : LtK l[lowG l l[i].file l[i].n] l[i] := List.pairwise_iff_getElem.1 h _ _ _ _ hlt
    have := h4 h5
    omega
  omega
theorem has_at {l : List Pp} (h : l.Pairwise LtK) (i : Nat) (hi : i < l.length) : hasG l l[i].file l[i].n = true := by
  have e := low_at h i hi
  rw [hasG_iff]
  exact ⟨by omega, by simp [e]⟩
theorem hasG_mem {l : List Pp} {f n : Int} (h : l.Pairwise LtK) : hasG l f n = true ↔ ∃ p ∈ l, p.file = f ∧ p.n = n := by
  constructor
  · intro h1
    obtain ⟨h2, h3⟩ := hasG_iff.1 h1
    exact ⟨_, List.getElem_mem h2, h3⟩
  · rintro ⟨p, hp, rfl, rfl⟩
    obtain ⟨i, hi, rfl⟩ := List.getElem_of_mem hp
    exact has_at h i hi
end
section
set_option maxHeartbeats 2000000
set_option maxRecDepth 100000
set_option linter.unusedSimpArgs false
set_option linter.unusedVariables false
attribute [local simp] wpA wpX RunA RunD runF foot footP footB idsA bare apart runL step1 gsel_f gsel_t gsel_s res_same res_and1 res_and2 res_and3 res_and4 res_and5 res_and6 res_false res_true res_v res_ptr res_fptr res_osl res_xsl soft aAppendZ aCap ovlI ovlJ res_fsl res_esl res_agg res_tup res_fn res_junk res_anyb aPick hk imp_left iteV dstOk guardOk astep astepE AI.ev AI.look AI.put envOf aBox cellsOf allOne allOneA oneA Value.oneCell' Value.cells newObj' aFieldAddr aLoad obj readAt thenA blockA condA retA resA tupA view hot hotC hotR depthV cAgg cInt cBool mkAgg allV aAlloc aBuild fillA writeAt aStore isAggA aField idx aIndexAddr aIndex bnd aSlice aExtract aLen aBuiltin aCall isStatic eqAgg eqTy eqC ev_add ev_sub ev_mul ev_quo ev_rem ev_and ev_or ev_xor ev_andNot ev_shl ev_shr ev_eql ev_neq ev_lss ev_leq ev_gtr ev_geq ev_agg w64 wu32 wu8 ev_not ev_neg Cod.plain RCod.plain argM finM cold coldC coldR goInt intDec boolDec aggDec Weaker heapW lowA lowC Again slDec undef aBuildSlice setRows aAppend rowsOf aMakeSlice aClear aCopy softer_self softer_nil valsOf ev_min2 ev_max2 hotR_set hotR_append take_map_set irow_cold irow_mapM irow_mapMc irow_view irow_viewc irow_hotR irow_ren irow_renc irow_low WeakT heapT thOf ren renC AgainT NextF NextT fnDec cFn rNil selfLt natLt0 natLt1 getLastMap frame0 frame1 own0 own1 argG finG tau tauI tauO tauC bareA bareC bareH irow_tau irow_tauc irow_bare irow_flat irow_bareR ownA_nil ownT_nil ownA_c ownT_c ownA_s ownT_s takeMapLen footC plainA noId noIdC cloneF frame0F frame1F insertF replaceI replaceF cellDec rCell fpDec cFp rTwo deleteF allV_oA oneA_oA res_oA RunR RunE runFT footAt hotR_cat tmodN aEqH aSliceA fxSz2 fxBy2 fxAg2 fxZe2 fxSl2 fxAr2 fxPl2 fxSz3 fxBy3 fxAg3 fxZe3 fxSl3 fxAr3 fxPl3 fxSz4 fxBy4 fxAg4 fxZe4 fxSl4 fxAr4 fxPl4 fxSz5 fxBy5 fxAg5 fxZe5 fxSl5 fxAr5 fxPl5 fxSz9 fxBy9 fxAg9 fxZe9 fxSl9 fxAr9 fxPl9 fxSz12 fxBy12 fxAg12 fxZe12 fxSl12 fxAr12 fxPl12 fxSz13 fxBy13 fxAg13 fxZe13 fxSl13 fxAr13 fxFi13x0 fxFi13x1 fxPl13 fxSz21 fxBy21 fxAg21 fxZe21 fxSl21 fxAr21 fxPl21 fxSz22 fxBy22 fxAg22 fxZe22 fxSl22 fxAr22 fxPl22 fxSz23 fxBy23 fxAg23 fxZe23 fxSl23 fxAr23 fxFi23x0 fxFi23x1 fxPl23 fxSz24 fxBy24 fxAg24 fxZe24 fxSl24 fxAr24 fxFi24x0 fxFi24x1 fxPl24 fxSz25 fxBy25 fxAg25 fxZe25 fxSl25 fxAr25 fxFi25x0 fxFi25x1 fxFi25x2 fxPl25 fxSz26 fxBy26 fxAg26 fxZe26 fxSl26 fxAr26 fxFi26x0 fxFi26x1 fxFi26x2 fxPl26 fxSz27 fxBy27 fxAg27 fxZe27 fxSl27 fxAr27 fxPl27 fxSz28 fxBy28 fxAg28 fxZe28 fxSl28 fxAr28 fxFi28x0 fxFi28x1 fxPl28 fxSz29 fxBy29 fxAg29 fxZe29 fxSl29 fxAr29 fxFi29x0 fxFi29x1 fxPl29 fxSz33 fxBy33 fxAg33 fxZe33 fxSl33 fxAr33 fxPl33 fxSz34 fxBy34 fxAg34 fxZe34 fxSl34 fxAr34 fxFi34x0 fxFi34x1 fxFi34x2 fxFi34x3 fxFi34x4 fxPl34 fxSz35 fxBy35 fxAg35 fxZe35 fxSl35 fxAr35 fxFi35x0 fxFi35x1 fxFi35x2 fxFi35x3 fxFi35x4 fxPl35 fxSz38 fxBy38 fxAg38 fxZe38 fxSl38 fxAr38 fxPl38 fxSz50 fxBy50 fxAg50 fxZe50 fxSl50 fxAr50 fxPl50 fxSz51 fxBy51 fxAg51 fxZe51 fxSl51 fxAr51 fxPl51 fxSz53 fxBy53 fxAg53 fxZe53 fxSl53 fxAr53 fxPl53 fxSz54 fxBy54 fxAg54 fxZe54 fxSl54 fxAr54 fxFi54x0 fxFi54x1 fxPl54 fxSz55 fxBy55 fxAg55 fxZe55 fxSl55 fxAr55 fxFi55x0 fxFi55x1 fxPl55 fxSz56 fxBy56 fxAg56 fxZe56 fxSl56 fxAr56 fxPl56 fxSz57 fxBy57 fxAg57 fxZe57 fxSl57 fxAr57 fxPl57 fxSz58 fxBy58 fxAg58 fxZe58 fxSl58 fxAr58 fxFi58x0 fxFi58x1 fxFi58x2 fxFi58x3 fxFi58x4 fxFi58x5 fxFi58x6 fxPl58 fxSz59 fxBy59 fxAg59 fxZe59 fxSl59 fxAr59 fxFi59x0 fxFi59x1 fxFi59x2 fxFi59x3 fxFi59x4 fxFi59x5 fxFi59x6 fxPl59 fxSz60 fxBy60 fxAg60 fxZe60 fxSl60 fxAr60 fxPl60 fxSz61 fxBy61 fxAg61 fxZe61 fxSl61 fxAr61 fxFi61x0 fxFi61x1 fxPl61 fxSz62 fxBy62 fxAg62 fxZe62 fxSl62 fxAr62 fxFi62x0 fxFi62x1 fxPl62 fxSz63 fxBy63 fxAg63 fxZe63 fxSl63 fxAr63 fxPl63 fxSz64 fxBy64 fxAg64 fxZe64 fxSl64 fxAr64 fxFi64x0 fxFi64x1 fxFi64x2 fxPl64 fxSz65 fxBy65 fxAg65 fxZe65 fxSl65 fxAr65 fxFi65x0 fxFi65x1 fxFi65x2 fxPl65 fxSz66 fxBy66 fxAg66 fxZe66 fxSl66 fxAr66 fxPl66 fxSz68 fxBy68 fxAg68 fxZe68 fxSl68 fxAr68 fxPl68 fxSz69 fxBy69 fxAg69 fxZe69 fxSl69 fxAr69 fxPl69 fxSz70 fxBy70 fxAg70 fxZe70 fxSl70 fxAr70 fxPl70 fxSz71 fxBy71 fxAg71 fxZe71 fxSl71 fxAr71 fxFi71x0 fxFi71x1 fxPl71 fxSz72 fxBy72 fxAg72 fxZe72 fxSl72 fxAr72 fxFi72x0 fxFi72x1 fxPl72 fxSz74 fxBy74 fxAg74 fxZe74 fxSl74 fxAr74 fxPl74 fxSz75 fxBy75 fxAg75 fxZe75 fxSl75 fxAr75 fxFi75x0 fxFi75x1 fxFi75x2 fxPl75 fxSz76 fxBy76 fxAg76 fxZe76 fxSl76 fxAr76 fxFi76x0 fxFi76x1 fxFi76x2 fxPl76 fxSz92 fxBy92 fxAg92 fxZe92 fxSl92 fxAr92 fxPl92 fxSz93 fxBy93 fxAg93 fxZe93 fxSl93 fxAr93 fxPl93 fxSz94 fxBy94 fxAg94 fxZe94 fxSl94 fxAr94 fxPl94 fxSz96 fxBy96 fxAg96 fxZe96 fxSl96 fxAr96 fxPl96 fxSz97 fxBy97 fxAg97 fxZe97 fxSl97 fxAr97 fxPl97 fxSz98 fxBy98 fxAg98 fxZe98 fxSl98 fxAr98 fxFi98x0 fxFi98x1 fxPl98 fxSz99 fxBy99 fxAg99 fxZe99 fxSl99 fxAr99 fxFi99x0 fxFi99x1 fxPl99 fxSz100 fxBy100 fxAg100 fxZe100 fxSl100 fxAr100 fxPl100 fxSz101 fxBy101 fxAg101 fxZe101 fxSl101 fxAr101 fxFi101x0 fxFi101x1 fxPl101 fxSz102 fxBy102 fxAg102 fxZe102 fxSl102 fxAr102 fxFi102x0 fxFi102x1 fxPl102 fxSz103 fxBy103 fxAg103 fxZe103 fxSl103 fxAr103 fxFi103x0 fxFi103x1 fxPl103 fxSz104 fxBy104 fxAg104 fxZe104 fxSl104 fxAr104 fxFi104x0 fxFi104x1 fxPl104 fxSz106 fxBy106 fxAg106 fxZe106 fxSl106 fxAr106 fxFi106x0 fxFi106x1 fxFi106x2 fxPl106 fxSz107 fxBy107 fxAg107 fxZe107 fxSl107 fxAr107 fxFi107x0 fxFi107x1 fxFi107x2 fxPl107 fxSz109 fxBy109 fxAg109 fxZe109 fxSl109 fxAr109 fxFi109x0 fxFi109x1 fxPl109 fxSz110 fxBy110 fxAg110 fxZe110 fxSl110 fxAr110 fxFi110x0 fxFi110x1 fxPl110 fxSz111 fxBy111 fxAg111 fxZe111 fxSl111 fxAr111 fxPl111 fxSz112 fxBy112 fxAg112 fxZe112 fxSl112 fxAr112 fxPl112 fxSz113 fxBy113 fxAg113 fxZe113 fxSl113 fxAr113 fxFi113x0 fxFi113x1 fxPl113 fxSz114 fxBy114 fxAg114 fxZe114 fxSl114 fxAr114 fxFi114x0 fxFi114x1 fxPl114 fxSz131 fxBy131 fxAg131 fxZe131 fxSl131 fxAr131 fxPl131 fxSz132 fxBy132 fxAg132 fxZe132 fxSl132 fxAr132 fxPl132 fxSz133 fxBy133 fxAg133 fxZe133 fxSl133 fxAr133 fxPl133 fxSz135 fxBy135 fxAg135 fxZe135 fxSl135 fxAr135 fxPl135 fxSz136 fxBy136 fxAg136 fxZe136 fxSl136 fxAr136 fxFi136x0 fxFi136x1 fxFi136x2 fxPl136 fxSz137 fxBy137 fxAg137 fxZe137 fxSl137 fxAr137 fxFi137x0 fxFi137x1 fxFi137x2 fxPl137 fxSz138 fxBy138 fxAg138 fxZe138 fxSl138 fxAr138 fxPl138 fxSz139 fxBy139 fxAg139 fxZe139 fxSl139 fxAr139 fxFi139x0 fxFi139x1 fxPl139 fxSz140 fxBy140 fxAg140 fxZe140 fxSl140 fxAr140 fxFi140x0 fxFi140x1 fxPl140 fxSz141 fxBy141 fxAg141 fxZe141 fxSl141 fxAr141 fxPl141 fxSz145 fxBy145 fxAg145 fxZe145 fxSl145 fxAr145 fxFi145x0 fxFi145x1 fxPl145 fxSz146 fxBy146 fxAg146 fxZe146 fxSl146 fxAr146 fxFi146x0 fxFi146x1 fxPl146 fxSz165 fxBy165 fxAg165 fxZe165 fxSl165 fxAr165 fxPl165 fxSz166 fxBy166 fxAg166 fxZe166 fxSl166 fxAr166 fxPl166 fxSz167 fxBy167 fxAg167 fxZe167 fxSl167 fxAr167 fxPl167 fxSz169 fxBy169 fxAg169 fxZe169 fxSl169 fxAr169 fxPl169 fxSz170 fxBy170 fxAg170 fxZe170 fxSl170 fxAr170 fxPl170 fxSz171 fxBy171 fxAg171 fxZe171 fxSl171 fxAr171 fxPl171 fxSz183 fxBy183 fxAg183 fxZe183 fxSl183 fxAr183 fxPl183 fxSz208 fxBy208 fxAg208 fxZe208 fxSl208 fxAr208 fxPl208 fxSz262 fxBy262 fxAg262 fxZe262 fxSl262 fxAr262 fxPl262 fxSz283 fxBy283 fxAg283 fxZe283 fxSl283 fxAr283 fxPl283 fxSz294 fxBy294 fxAg294 fxZe294 fxSl294 fxAr294 fxPl294 fxSz295 fxBy295 fxAg295 fxZe295 fxSl295 fxAr295 fxPl295 fxSz296 fxBy296 fxAg296 fxZe296 fxSl296 fxAr296 fxPl296 fxSz299 fxBy299 fxAg299 fxZe299 fxSl299 fxAr299 fxPl299 fxSz307 fxBy307 fxAg307 fxZe307 fxSl307 fxAr307 fxPl307 fxSz308 fxBy308 fxAg308 fxZe308 fxSl308 fxAr308 fxPl308 fxSz316 fxBy316 fxAg316 fxZe316 fxSl316 fxAr316 fxPl316 fxSz320 fxBy320 fxAg320 fxZe320 fxSl320 fxAr320 fxPl320 fxSz324 fxBy324 fxAg324 fxZe324 fxSl324 fxAr324 fxPl324 fxSz330 fxBy330 fxAg330 fxZe330 fxSl330 fxAr330 fxPl330 fxSz331 fxBy331 fxAg331 fxZe331 fxSl331 fxAr331 fxFi331x0 fxPl331 fxSz337 fxBy337 fxAg337 fxZe337 fxSl337 fxAr337 fxPl337 fxSz342 fxBy342 fxAg342 fxZe342 fxSl342 fxAr342 fxPl342 fxEq26 fxEq33 fxEq35 fxEq59 fxEq62 fxEq65 fxEq76 fxEq104 fxEq107 fxEq110 fxEq137 fxEq146 fxEq171 fxEq296 fxCv2x2 fxCv2x3 fxCv2x5 fxCv2x12 fxCv2x21 fxCv2x38 fxCv2x74 fxCv2x283 fxCv2x299 fxCv2x307 fxCv2x316 fxCv3x2 fxCv3x3 fxCv3x5 fxCv3x12 fxCv3x21 fxCv3x38 fxCv3x74 fxCv3x283 fxCv3x299 fxCv3x307 fxCv3x316 fxCv5x2 fxCv5x3 fxCv5x5 fxCv5x12 fxCv5x21 fxCv5x38 fxCv5x74 fxCv5x283 fxCv5x299 fxCv5x307 fxCv5x316 fxCv12x2 fxCv12x3 fxCv12x5 fxCv12x12 fxCv12x21 fxCv12x38 fxCv12x74 fxCv12x283 fxCv12x299 fxCv12x307 fxCv12x316 fxCv21x2 fxCv21x3 fxCv21x5 fxCv21x12 fxCv21x21 fxCv21x38 fxCv21x74 fxCv21x283 fxCv21x299 fxCv21x307 fxCv21x316 fxCv38x2 fxCv38x3 fxCv38x5 fxCv38x12 fxCv38x21 fxCv38x38 fxCv38x74 fxCv38x283 fxCv38x299 fxCv38x307 fxCv38x316 fxCv74x2 fxCv74x3 fxCv74x5 fxCv74x12 fxCv74x21 fxCv74x38 fxCv74x74 fxCv74x283 fxCv74x299 fxCv74x307 fxCv74x316 fxCv283x2 fxCv283x3 fxCv283x5 fxCv283x12 fxCv283x21 fxCv283x38 fxCv283x74 fxCv283x283 fxCv283x299 fxCv283x307 fxCv283x316 fxCv299x2 fxCv299x3 fxCv299x5 fxCv299x12 fxCv299x21 fxCv299x38 fxCv299x74 fxCv299x283 fxCv299x299 fxCv299x307 fxCv299x316 fxCv307x2 fxCv307x3 fxCv307x5 fxCv307x12 fxCv307x21 fxCv307x38 fxCv307x74 fxCv307x283 fxCv307x299 fxCv307x307 fxCv307x316 fxCv316x2 fxCv316x3 fxCv316x5 fxCv316x12 fxCv316x21 fxCv316x38 fxCv316x74 fxCv316x283 fxCv316x299 fxCv316x307 fxCv316x316 fxEb4 fxNb4 fxLt9 fxLn22 fxNe22 fxNn22 fxOe22 fxOn22 fxXe22 fxXn22 fxLn27 fxNe27 fxNn27 fxOe27 fxOn27 fxXe27 fxXn27 fxLn53 fxNe53 fxNn53 fxOe53 fxOn53 fxXe53 fxXn53 fxLn60 fxNe60 fxNn60 fxOe60 fxOn60 fxXe60 fxXn60 fxLn63 fxNe63 fxNn63 fxOe63 fxOn63 fxXe63 fxXn63 fxLn66 fxNe66 fxNn66 fxOe66 fxOn66 fxXe66 fxXn66 fxLn68 fxNe68 fxNn68 fxOe68 fxOn68 fxXe68 fxXn68 fxLn69 fxNe69 fxNn69 fxOe69 fxOn69 fxXe69 fxXn69 fxLn70 fxNe70 fxNn70 fxOe70 fxOn70 fxXe70 fxXn70 fxLn96 fxNe96 fxNn96 fxOe96 fxOn96 fxXe96 fxXn96 fxLn97 fxNe97 fxNn97 fxOe97 fxOn97 fxXe97 fxXn97 fxLn100 fxNe100 fxNn100 fxOe100 fxOn100 fxXe100 fxXn100 fxLn111 fxNe111 fxNn111 fxOe111 fxOn111 fxXe111 fxXn111 fxLn112 fxNe112 fxNn112 fxOe112 fxOn112 fxXe112 fxXn112 fxLn135 fxNe135 fxNn135 fxOe135 fxOn135 fxXe135 fxXn135 fxLn138 fxNe138 fxNn138 fxOe138 fxOn138 fxXe138 fxXn138 fxLn141 fxNe141 fxNn141 fxOe141 fxOn141 fxXe141 fxXn141 fxLn169 fxNe169 fxNn169 fxOe169 fxOn169 fxXe169 fxXn169 fxLn170 fxNe170 fxNn170 fxOe170 fxOn170 fxXe170 fxXn170 fxLn308 fxNe308 fxNn308 fxOe308 fxOn308 fxXe308 fxXn308 fxFn3 fxFm3 fxFb3 fxFi3 fxFj3 fxFn4 fxFm4 fxFb4 fxFi4 fxFj4 fxFn5 fxFm5 fxFb5 fxFi5 fxFj5 fxFn6 fxFm6 fxFb6 fxFi6 fxFj6 fxFn7 fxFm7 fxFb7 fxFi7 fxFj7 fxFn8 fxFm8 fxFb8 fxFi8 fxFj8 fxFn9 fxFm9 fxFb9 fxFi9 fxFj9 fxFn10 fxFm10 fxFb10 fxFi10 fxFj10 fxFn11 fxFm11 fxFb11 fxFi11 fxFj11 fxFn12 fxFm12 fxFb12 fxFi12 fxFj12 fxFn13 fxFm13 fxFb13 fxFi13 fxFj13 fxFn14 fxFm14 fxFb14 fxFi14 fxFj14 fxFn15 fxFm15 fxFb15 fxFi15 fxFj15 fxFn16 fxFm16 fxFb16 fxFi16 fxFj16 fxFn17 fxFm17 fxFb17 fxFi17 fxFj17 fxFn18 fxFm18 fxFb18 fxFi18 fxFj18 fxFn19 fxFm19 fxFb19 fxFi19 fxFj19 fxFn20 fxFm20 fxFb20 fxFi20 fxFj20 fxFn21 fxFm21 fxFb21 fxFi21 fxFj21 fxFn22 fxFm22 fxFb22 fxFi22 fxFj22 fxFn23 fxFm23 fxFb23 fxFi23 fxFj23 fxFn24 fxFm24 fxFb24 fxFi24 fxFj24 fxFn25 fxFm25 fxFb25 fxFi25 fxFj25 fxFn26 fxFm26 fxFb26 fxFi26 fxFj26 fxFn27 fxFm27 fxFb27 fxFi27 fxFj27 fxFn28 fxFm28 fxFb28 fxFi28 fxFj28 fxFn29 fxFm29 fxFb29 fxFi29 fxFj29 fxFn30 fxFm30 fxFb30 fxFi30 fxFj30 fxFn31 fxFm31 fxFb31 fxFi31 fxFj31 fxFn32 fxFm32 fxFb32 fxFi32 fxFj32 fxFn33 fxFm33 fxFb33 fxFi33 fxFj33 fxFn34 fxFm34 fxFb34 fxFi34 fxFj34 fxFn35 fxFm35 fxFb35 fxFi35 fxFj35 fxFn36 fxFm36 fxFb36 fxFi36 fxFj36 fxFn37 fxFm37 fxFb37 fxFi37 fxFj37 fxFn38 fxFm38 fxFb38 fxFi38 fxFj38 fxFn39 fxFm39 fxFb39 fxFi39 fxFj39 fxFn40 fxFm40 fxFb40 fxFi40 fxFj40 fxFn41 fxFm41 fxFb41 fxFi41 fxFj41 fxFn42 fxFm42 fxFb42 fxFi42 fxFj42 fxFn43 fxFm43 fxFb43 fxFi43 fxFj43 fxFn44 fxFm44 fxFb44 fxFi44 fxFj44 fxFn45 fxFm45 fxFb45 fxFi45 fxFj45 fxFn46 fxFm46 fxFb46 fxFi46 fxFj46 fxFn47 fxFm47 fxFb47 fxFi47 fxFj47 fxFn48 fxFm48 fxFb48 fxFi48 fxFj48 fxFn49 fxFm49 fxFb49 fxFi49 fxFj49 fxFn50 fxFm50 fxFb50 fxFi50 fxFj50 fxFn51 fxFm51 fxFb51 fxFi51 fxFj51 fxFn52 fxFm52 fxFb52 fxFi52 fxFj52 fxFn53 fxFm53 fxFb53 fxFi53 fxFj53 fxFn54 fxFm54 fxFb54 fxFi54 fxFj54 fxFn55 fxFm55 fxFb55 fxFi55 fxFj55 fxFn56 fxFm56 fxFb56 fxFi56 fxFj56 fxFn57 fxFm57 fxFb57 fxFi57 fxFj57 fxFn58 fxFm58 fxFb58 fxFi58 fxFj58 fxFn59 fxFm59 fxFb59 fxFi59 fxFj59 fxFn60 fxFm60 fxFb60 fxFi60 fxFj60 fxFn61 fxFm61 fxFb61 fxFi61 fxFj61 fxFn62 fxFm62 fxFb62 fxFi62 fxFj62 fxFn63 fxFm63 fxFb63 fxFi63 fxFj63 fxFn64 fxFm64 fxFb64 fxFi64 fxFj64 fxFn65 fxFm65 fxFb65 fxFi65 fxFj65 fxFn66 fxFm66 fxFb66 fxFi66 fxFj66 fxFn67 fxFm67 fxFb67 fxFi67 fxFj67 fxFn68 fxFm68 fxFb68 fxFi68 fxFj68 fxFn69 fxFm69 fxFb69 fxFi69 fxFj69 fxFn70 fxFm70 fxFb70 fxFi70 fxFj70 fxFn71 fxFm71 fxFb71 fxFi71 fxFj71 fxFn72 fxFm72 fxFb72 fxFi72 fxFj72 fxFn73 fxFm73 fxFb73 fxFi73 fxFj73 fxFn74 fxFm74 fxFb74 fxFi74 fxFj74 fxFn75 fxFm75 fxFb75 fxFi75 fxFj75 fxFn76 fxFm76 fxFb76 fxFi76 fxFj76 fxFn77 fxFm77 fxFb77 fxFi77 fxFj77 fxFn78 fxFm78 fxFb78 fxFi78 fxFj78 fxFn79 fxFm79 fxFb79 fxFi79 fxFj79 fxFn80 fxFm80 fxFb80 fxFi80 fxFj80 fxFn81 fxFm81 fxFb81 fxFi81 fxFj81 fxFn82 fxFm82 fxFb82 fxFi82 fxFj82 fxFn83 fxFm83 fxFb83 fxFi83 fxFj83 fxFn84 fxFm84 fxFb84 fxFi84 fxFj84 fxFn85 fxFm85 fxFb85 fxFi85 fxFj85 fxFn86 fxFm86 fxFb86 fxFi86 fxFj86 fxFn87 fxFm87 fxFb87 fxFi87 fxFj87 fxFn88 fxFm88 fxFb88 fxFi88 fxFj88 fxFn89 fxFm89 fxFb89 fxFi89 fxFj89 fxFn90 fxFm90 fxFb90 fxFi90 fxFj90 fxFn91 fxFm91 fxFb91 fxFi91 fxFj91 fxFn92 fxFm92 fxFb92 fxFi92 fxFj92 fxFn93 fxFm93 fxFb93 fxFi93 fxFj93 fxFn94 fxFm94 fxFb94 fxFi94 fxFj94 fxFn95 fxFm95 fxFb95 fxFi95 fxFj95 fxFn96 fxFm96 fxFb96 fxFi96 fxFj96 fxFn97 fxFm97 fxFb97 fxFi97 fxFj97 fxFn98 fxFm98 fxFb98 fxFi98 fxFj98 fxFn99 fxFm99 fxFb99 fxFi99 fxFj99 fxFn100 fxFm100 fxFb100 fxFi100 fxFj100 fxFn101 fxFm101 fxFb101 fxFi101 fxFj101 fxFn102 fxFm102 fxFb102 fxFi102 fxFj102 fxFn103 fxFm103 fxFb103 fxFi103 fxFj103 fxFn104 fxFm104 fxFb104 fxFi104 fxFj104 fxFn105 fxFm105 fxFb105 fxFi105 fxFj105 fxFn106 fxFm106 fxFb106 fxFi106 fxFj106 fxFn107 fxFm107 fxFb107 fxFi107 fxFj107 fxFn108 fxFm108 fxFb108 fxFi108 fxFj108 fxFn109 fxFm109 fxFb109 fxFi109 fxFj109 fxFn110 fxFm110 fxFb110 fxFi110 fxFj110 fxFn111 fxFm111 fxFb111 fxFi111 fxFj111 fxFn112 fxFm112 fxFb112 fxFi112 fxFj112 fxFn113 fxFm113 fxFb113 fxFi113 fxFj113 fxFn114 fxFm114 fxFb114 fxFi114 fxFj114 fxFn115 fxFm115 fxFb115 fxFi115 fxFj115 fxFn116 fxFm116 fxFb116 fxFi116 fxFj116 fxFn117 fxFm117 fxFb117 fxFi117 fxFj117 fxFn118 fxFm118 fxFb118 fxFi118 fxFj118 fxFn119 fxFm119 fxFb119 fxFi119 fxFj119 fxFn120 fxFm120 fxFb120 fxFi120 fxFj120 fxFn121 fxFm121 fxFb121 fxFi121 fxFj121 fxFn122 fxFm122 fxFb122 fxFi122 fxFj122 fxFn123 fxFm123 fxFb123 fxFi123 fxFj123 fxFn124 fxFm124 fxFb124 fxFi124 fxFj124 fxFn125 fxFm125 fxFb125 fxFi125 fxFj125 fxFn126 fxFm126 fxFb126 fxFi126 fxFj126 fxFn127 fxFm127 fxFb127 fxFi127 fxFj127 fxFn128 fxFm128 fxFb128 fxFi128 fxFj128 fxFn129 fxFm129 fxFb129 fxFi129 fxFj129 fxFn130 fxFm130 fxFb130 fxFi130 fxFj130 fxFn131 fxFm131 fxFb131 fxFi131 fxFj131 fxFn132 fxFm132 fxFb132 fxFi132 fxFj132 fxFn133 fxFm133 fxFb133 fxFi133 fxFj133 fxFn134 fxFm134 fxFb134 fxFi134 fxFj134 fxFn135 fxFm135 fxFb135 fxFi135 fxFj135 fxFn136 fxFm136 fxFb136 fxFi136 fxFj136 fxFn137 fxFm137 fxFb137 fxFi137 fxFj137 fxFn138 fxFm138 fxFb138 fxFi138 fxFj138 fxFn139 fxFm139 fxFb139 fxFi139 fxFj139 fxFn140 fxFm140 fxFb140 fxFi140 fxFj140 fxFn141 fxFm141 fxFb141 fxFi141 fxFj141 fxFn142 fxFm142 fxFb142 fxFi142 fxFj142 fxFn143 fxFm143 fxFb143 fxFi143 fxFj143 fxFn144 fxFm144 fxFb144 fxFi144 fxFj144 fxFn145 fxFm145 fxFb145 fxFi145 fxFj145 fxFn146 fxFm146 fxFb146 fxFi146 fxFj146 fxFn147 fxFm147 fxFb147 fxFi147 fxFj147 fxFn148 fxFm148 fxFb148 fxFi148 fxFj148 fxFn149 fxFm149 fxFb149 fxFi149 fxFj149 fxFn150 fxFm150 fxFb150 fxFi150 fxFj150 fxFn151 fxFm151 fxFb151 fxFi151 fxFj151 fxFn152 fxFm152 fxFb152 fxFi152 fxFj152 fxFn153 fxFm153 fxFb153 fxFi153 fxFj153 fxFn154 fxFm154 fxFb154 fxFi154 fxFj154 fxFn155 fxFm155 fxFb155 fxFi155 fxFj155 fxFn156 fxFm156 fxFn157 fxFm157 fxFb157 fxFi157 fxFj157 fxFn158 fxFm158 fxFb158 fxFi158 fxFj158 fxFn159 fxFm159 fxFb159 fxFi159 fxFj159 fxFn160 fxFm160 fxFb160 fxFi160 fxFj160 fxFn161 fxFm161 fxFn162 fxFm162 fxFb162 fxFi162 fxFj162 fxFn163 fxFm163 fxFb163 fxFi163 fxFj163 fxFn164 fxFm164 fxFb164 fxFi164 fxFj164 fxFn165 fxFm165 fxFb165 fxFi165 fxFj165 fxFn166 fxFm166 fxFb166 fxFi166 fxFj166 fxFn167 fxFm167 fxFb167 fxFi167 fxFj167 fxFn168 fxFm168 fxFb168 fxFi168 fxFj168 fxFn169 fxFm169 fxFb169 fxFi169 fxFj169 fxFn170 fxFm170 fxFb170 fxFi170 fxFj170 fxFn171 fxFm171 fxFb171 fxFi171 fxFj171 fxFn172 fxFm172 fxFb172 fxFi172 fxFj172 fxFn173 fxFm173 fxFn174 fxFm174 fxFb174 fxFi174 fxFj174 fxFn175 fxFm175 fxFb175 fxFi175 fxFj175 fxFn176 fxFm176 fxFb176 fxFi176 fxFj176 fxFn177 fxFm177 fxFb177 fxFi177 fxFj177 fxFn178 fxFm178 fxFb178 fxFi178 fxFj178 fxFn179 fxFm179 fxFb179 fxFi179 fxFj179 fxFn180 fxFm180 fxFn181 fxFm181 fxFb181 fxFi181 fxFj181 fxFn182 fxFm182 fxFb182 fxFi182 fxFj182 fxFn183 fxFm183 fxFn184 fxFm184 fxFb184 fxFi184 fxFj184 fxFn185 fxFm185 fxFb185 fxFi185 fxFj185 fxFn186 fxFm186 fxFb186 fxFi186 fxFj186 fxFn187 fxFm187 fxFb187 fxFi187 fxFj187 fxFn188 fxFm188 fxFb188 fxFi188 fxFj188 fxFn189 fxFm189 fxFb189 fxFi189 fxFj189 fxFn190 fxFm190 fxFb190 fxFi190 fxFj190 fxFn191 fxFm191 fxFn192 fxFm192 fxFb192 fxFi192 fxFj192 fxFn193 fxFm193 fxFb193 fxFi193 fxFj193 fxFn194 fxFm194 fxFb194 fxFi194 fxFj194 fxFn195 fxFm195 fxFb195 fxFi195 fxFj195 fxFn196 fxFm196 fxFb196 fxFi196 fxFj196 fxFn197 fxFm197 fxFb197 fxFi197 fxFj197 fxFn198 fxFm198 fxFb198 fxFi198 fxFj198 fxFn199 fxFm199 fxFb199 fxFi199 fxFj199 fxFn200 fxFm200 fxFb200 fxFi200 fxFj200 fxFn201 fxFm201 fxFn202 fxFm202 fxFb202 fxFi202 fxFj202 fxFn203 fxFm203 fxFb203 fxFi203 fxFj203 fxFn204 fxFm204 fxFb204 fxFi204 fxFj204 fxFn205 fxFm205 fxFb205 fxFi205 fxFj205 fxFn206 fxFm206 fxFb206 fxFi206 fxFj206 fxFn207 fxFm207 fxFb207 fxFi207 fxFj207 fxFn208 fxFm208 fxFb208 fxFi208 fxFj208 fxFn209 fxFm209 fxFb209 fxFi209 fxFj209 fxFn210 fxFm210 fxFb210 fxFi210 fxFj210 fxFn211 fxFm211 fxFb211 fxFi211 fxFj211 fxFn212 fxFm212 fxFb212 fxFi212 fxFj212 fxFn213 fxFm213 fxFb213 fxFi213 fxFj213 fxFn214 fxFm214 fxFb214 fxFi214 fxFj214 fxFn215 fxFm215 fxFb215 fxFi215 fxFj215 fxFn216 fxFm216 fxFb216 fxFi216 fxFj216 fxFn217 fxFm217 fxFb217 fxFi217 fxFj217 fxFn218 fxFm218 fxFb218 fxFi218 fxFj218 fxFn219 fxFm219 fxFb219 fxFi219 fxFj219 fxFn220 fxFm220 fxFb220 fxFi220 fxFj220 fxFn221 fxFm221 fxFb221 fxFi221 fxFj221 fxFn222 fxFm222 fxFb222 fxFi222 fxFj222 fxFn223 fxFm223 fxFb223 fxFi223 fxFj223 fxFn224 fxFm224 fxFb224 fxFi224 fxFj224 fxFn225 fxFm225 fxFb225 fxFi225 fxFj225 fxFn226 fxFm226 fxFb226 fxFi226 fxFj226 fxFn227 fxFm227 fxFb227 fxFi227 fxFj227 fxFn228 fxFm228 fxFb228 fxFi228 fxFj228 fxFn229 fxFm229 fxFb229 fxFi229 fxFj229 fxFn230 fxFm230 fxFb230 fxFi230 fxFj230 fxFn231 fxFm231 fxFb231 fxFi231 fxFj231 fxFn232 fxFm232 fxFb232 fxFi232 fxFj232 fxFn233 fxFm233 fxFb233 fxFi233 fxFj233 fxFn234 fxFm234 fxFb234 fxFi234 fxFj234
section
attribute [local simp] Pg.eta Pg.cold Pg.mapM Pg.mapMc Pg.view Pg.viewc Pg.hotR Pg.ren Pg.renc Pg.low Pg.tau Pg.tauc Pg.bare Pg.flat Pg.flat1 Pg.mapMt Pg.mapMd Pg.coldt Pg.coldd Pg.hotRt Pg.hotRd
attribute [local simp] Pp.eta Pp.cold Pp.mapM Pp.mapMc Pp.view Pp.viewc Pp.hotR Pp.ren Pp.renc Pp.low Pp.tau Pp.tauc Pp.bare Pp.flat Pp.flat1 Pp.mapMt Pp.mapMd Pp.coldt Pp.coldd Pp.hotRt Pp.hotRd
attribute [local simp] Ca.eta Ca.dec_row Ca.dec_hrow Ca.cold Ca.hcold Ca.mapM Ca.mapMc Ca.hmapM Ca.hmapMc Ca.view Ca.viewc Ca.hview Ca.hviewc Ca.hotR Ca.ren Ca.renc Ca.low Ca.hlow
def seenM (ks : List Int) : List Row := ks.map fun d => [.v (.int .i64 d), .v (.bool true)]
def addK (ks : List Int) (d : Int) : List Int := if d ∈ ks then ks else ks ++ [d]
theorem keyD_eq (a b : Int) : keyEq Try.prog 3 (.int .i64 a) (.int .i64 b) = some (decide (a = b)) := by
  simp [keyEq]
  rw [Bool.eq_iff_iff]; simp
theorem seen_find (d : Int) (ks : List Int) (hn : ks.Nodup) : findR Try.prog 3 (.int .i64 d) (seenM ks) = some (if d ∈ ks then some (.v (.bool true)) else none) := by
  induction ks with
  | nil => simp [seenM, findR]
  | cons a l ih =>
    have ih := ih (List.nodup_cons.1 hn).2
    have hna := (List.nodup_cons.1 hn).1
    simp only [seenM, List.map_cons, findR, keyD_eq] at ih ⊢
    by_cases h : d = a
    · subst h
      rw [if_neg hna] at ih
      simp [ih]
    · simp [h, ih]
theorem seen_put (d : Int) (ks : List Int) (hn : ks.Nodup) : putR Try.prog 3 (.int .i64 d) (.v (.bool true)) (seenM ks) = some (seenM (addK ks d)) := by
  induction ks with
  | nil => simp [seenM, putR, addK]
  | cons a l ih =>
    have ih := ih (List.nodup_cons.1 hn).2
    have hna := (List.nodup_cons.1 hn).1
    have hf := seen_find d l (List.nodup_cons.1 hn).2
    simp only [seenM, List.map_cons, putR, keyD_eq] at ih hf ⊢
    by_cases h : d = a
    · subst h
      rw [if_neg hna] at hf
      simp [addK, hf, Instr.sameBits]
    · simp only [h, decide_false]
      simp only [ih]
      unfold addK
      by_cases h2 : d ∈ l <;> simp [h, h2]
theorem addK_nodup {ks : List Int} (hn : ks.Nodup) (d : Int) : (addK ks d).Nodup := by
  unfold addK
  split
  · exact hn
  · rename_i h
    rw [List.nodup_append]
    exact ⟨hn, by simp, fun a ha b hb e => by rw [List.mem_singleton] at hb; subst hb; subst e; exact h ha⟩
theorem take_last {l : List Pp} {k : Nat} (hk : k < l.length) : (l.take (k + 1)).getLast? = some l[k] := by
  rw [List.take_succ_eq_append_getElem hk, List.getLast?_concat]
theorem seen_low {n : Nat} {ks : List Int} {x : Row} (h : x ∈ seenM ks) : ∀ a ∈ x, lowA n a = true := by
  simp only [seenM, List.mem_map] at h
  obtain ⟨p, _, rfl⟩ := h
  simp [lowA]
theorem addK_seen {l : List Pp} {ks : List Int} {k : Nat} (hk : k < l.length) (h : ∀ d, d ∈ ks ↔ seenB (l.take k) d = true) (d : Int) : d ∈ addK ks l[k].dirty ↔ seenB (l.take (k + 1)) d = true := by
  have e : seenB (l.take (k + 1)) d = (seenB (l.take k) d || decide (l[k].dirty = d)) := by
    rw [List.take_succ_eq_append_getElem hk]
    simp only [seenB, List.any_append, List.any_cons, List.any_nil, Bool.or_false]
  rw [e]
  unfold addK
  by_cases h2 : l[k].dirty ∈ ks
  · rw [if_pos h2]
    constructor
    · intro h3; rw [(h d).1 h3]; rfl
    · intro h3
      rw [Bool.or_eq_true] at h3
      rcases h3 with h3 | h3
      · exact (h d).2 h3
      · simp at h3; subst h3; exact h2
  · rw [if_neg h2, List.mem_append, h d, Bool.or_eq_true]
    simp only [List.mem_singleton, decide_eq_true_eq]
    exact or_congr Iff.rfl eq_comm
theorem caCheck_pure : PureOk Try.prog 91 (argM (cAgg rCa) fun c => finM (some (.v (.int .i64 (caCheck c))))) := by
  refine pure1 Try.func91 rfl ?_
  rintro c r hr
  simp only [Option.some.injEq] at hr
  subst hr
  refine body_gen ((noOrc_ok.withP right_pure).withP order_pure) fxMix (by kernel_rfl) (by simp [Try.ntmps91]) ?_
  intro C cP cI cN cD cF cA cR cL
  have cp0 := orcP right_pure (C := C) (by rw [cP]; rfl)
  have cp1 := orcP order_pure (C := C) (by rw [cP]; rfl)
  replace cI : C.inl = fun _ => false := cI
  replace cR : C.rd = fun _ => none := cR
  replace cD : C.dyn = fun _ => [] := cD
  clear cP cN cF cA
  unfold caCheck
  obtain ⟨l, T⟩ := c
  by_cases h1 : 64 < l.length
  · have h1' := eq_true (show (64 : Int) < l.length by omega)
    rw [if_pos (by simpa using h1)]
    clear h1
    simp [Try.ntmps91, Try.results91, cSl, cp0, cp1, cI, cD, cR, rCa, caDec, Ca.row, rPp, h1']
    done
  have h1' : ¬ (64 : Int) < l.length := by omega
  by_cases h2 : T < 1
  · simp [Try.ntmps91, Try.results91, cSl, cp0, cp1, cI, cD, cR, rCa, caDec, Ca.row, rPp, h1, h1', h2]
    done
  by_cases h3 : 1073741824 < T
  · simp [Try.ntmps91, Try.results91, cSl, cp0, cp1, cI, cD, cR, rCa, caDec, Ca.row, rPp, h1, h1', h2, h3]
    done
  have h64 : l.length ≤ 64 := by omega
  rw [if_neg (by simpa using h1), if_neg (by simp only; omega)]
  simp [Try.ntmps91, Try.results91, cSl, cp0, cp1, cI, cD, cR, rCa, caDec, Ca.row, rPp, h1, h1', h2, h3]
  refine loop_for l.length (fun k (ks : List Int) => ([(1, .ptr 0 2 0 0), (3, .ptr 1 0 0 0), (20, .fsl false 20 (l.map Pp.row)), (21, .v (.int .i64 l.length)), (22, .v (.int .i64 k))], [some (2, [[.fsl false 20 (l.map Pp.row), .v (.int .i64 T)]]), some (0, seenM ks)])) (fun k ks => ((∀ d, d ∈ ks ↔ seenB (l.take k) d = true) ∧ ks.Nodup) ∧ caGo T (l.take k) (l.drop k) = caGo T [] l) [] (by omega) ⟨⟨by simp [seenB], List.Pairwise.nil⟩, rfl⟩ (by simp [seenM]) ?_ ?_
  · rintro k ks hk ⟨⟨hks, hnd⟩, hall⟩ hw
    have hnd2 := addK_nodup hnd l[k].dirty
    rw [List.drop_eq_getElem_cons hk] at hall
    simp only [caGo] at hall
    have hf := seen_find l[k].dirty ks hnd
    have hp := seen_put l[k].dirty ks hnd
    have hko : keyOk Try.prog 3 (.int .i64 l[k].dirty) = true := rfl
    have hnx := addK_seen hk hks
    have hsd := hks l[k].dirty
    have hlw := fun n x (h : x ∈ seenM (addK ks l[k].dirty)) => seen_low (n := n) h
    have hbb : badP T l[k] = true → caGo T [] l = 1 := fun h => by rw [if_pos h] at hall; exact hall.symm
    by_cases r : rightP l[k].file l[k].n = true
    case neg =>
      have hb := hbb (by simp [badP, r])
      simp only [Bool.not_eq_true] at r
      simp [Try.ntmps91, Try.results91, cSl, cp0, cp1, cI, cD, cR, rCa, caDec, Ca.row, rPp, Pp.row, ppDec, hk, hw, r, hb]
      done
    by_cases m0 : l[k].maps < 0
    · have hb := hbb (by simp [badP, m0])
      simp [Try.ntmps91, Try.results91, cSl, cp0, cp1, cI, cD, cR, rCa, caDec, Ca.row, rPp, Pp.row, ppDec, hk, hw, r, m0, hb]
      done
    by_cases m1 : 64 < l[k].maps
    · have hb := hbb (by simp [badP, m1])
      simp [Try.ntmps91, Try.results91, cSl, cp0, cp1, cI, cD, cR, rCa, caDec, Ca.row, rPp, Pp.row, ppDec, hk, hw, r, m0, m1, hb]
      done
    by_cases d0 : l[k].dirty < 0
    · have hb := hbb (by simp [badP, d0])
      simp [Try.ntmps91, Try.results91, cSl, cp0, cp1, cI, cD, cR, rCa, caDec, Ca.row, rPp, Pp.row, ppDec, hk, hw, r, m0, m1, d0, hb]
      done
    by_cases d1 : T ≤ l[k].dirty
    · have hb := hbb (by simp [badP, d1])
      simp [Try.ntmps91, Try.results91, cSl, cp0, cp1, cI, cD, cR, rCa, caDec, Ca.row, rPp, Pp.row, ppDec, hk, hw, r, m0, m1, d0, d1, hb]
      done
    have hnb : ¬ badP T l[k] = true := by simp [badP, r]; omega
    rw [if_neg hnb] at hall
    clear hbb hnb
    by_cases q0 : k = 0
    · have e0 : l.take k = [] := by rw [q0]; rfl
      have q0b : ¬ (0 < k) := by omega
      have q0c : ¬ ((0 : Int) < (k : Int)) := by omega
      have hg : (l.take k).getLast? = none := by rw [e0]; rfl
      have hs0 : seenB (l.take k) l[k].dirty = false := by rw [e0]; rfl
      have hn0 : ¬ l[k].dirty ∈ ks := by rw [hsd, hs0]; decide
      simp only [hg, badLast, hs0, Bool.and_false, Bool.or_false, Bool.false_eq_true, if_false, ← List.take_succ_eq_append_getElem hk] at hall
      simp only [hn0, if_false] at hf
      clear q0 e0 hg
      by_cases dp : 0 < l[k].dirty
      · simp [Try.ntmps91, Try.results91, cSl, cp0, cp1, cI, cD, cR, rCa, caDec, Ca.row, rPp, Pp.row, ppDec, hk, hw, r, m0, m1, d0, d1, q0b, q0c, dp, aLookup, aMapUpdate, Try.underlying262, hko, hf, hp, lkRes]
        exact ⟨addK ks l[k].dirty, ⟨⟨hnx, hnd2⟩, hall⟩, rfl, fun x hx => hlw _ x hx⟩
      · simp [Try.ntmps91, Try.results91, cSl, cp0, cp1, cI, cD, cR, rCa, caDec, Ca.row, rPp, Pp.row, ppDec, hk, hw, r, m0, m1, d0, d1, q0b, q0c, dp, aLookup, aMapUpdate, Try.underlying262, hko, hf, hp, lkRes]
        exact ⟨addK ks l[k].dirty, ⟨⟨hnx, hnd2⟩, hall⟩, rfl, fun x hx => hlw _ x hx⟩
    · have hj : k - 1 < l.length := by omega
      have q0p := Nat.pos_of_ne_zero q0
      have hg : (l.take k).getLast? = some l[k - 1] := by
        have := take_last hj
        rwa [show k - 1 + 1 = k by omega] at this
      have hjw : IntKind.i64.wrap ((k : Int) - 1) = ((k - 1 : Nat) : Int) := by rw [w64 (by omega) (by omega)]; omega
      simp only [hg, badLast] at hall
      by_cases q2 : 0 ≤ ordK l[k - 1] l[k].file l[k].n
      · have hb : caGo T [] l = 3 := by rw [← hall]; simp [q2]
        simp [Try.ntmps91, Try.results91, cSl, cp0, cp1, cI, cD, cR, rCa, caDec, Ca.row, rPp, Pp.row, ppDec, hk, hj, hjw, hw, r, m0, m1, d0, d1, q0, q0p, q2, hb]
        done
      by_cases dp : 0 < l[k].dirty
      · by_cases hs0 : seenB (l.take k) l[k].dirty = true
        · have hn0 : l[k].dirty ∈ ks := hsd.2 hs0
          have hb : caGo T [] l = 3 := by rw [← hall]; simp [dp, hs0]
          simp only [hn0, if_true] at hf
          simp [Try.ntmps91, Try.results91, cSl, cp0, cp1, cI, cD, cR, rCa, caDec, Ca.row, rPp, Pp.row, ppDec, hk, hj, hjw, hw, r, m0, m1, d0, d1, q0, q0p, q2, dp, aLookup, aMapUpdate, Try.underlying262, hko, hf, hp, lkRes, hb]
          done
        · have hn0 : ¬ l[k].dirty ∈ ks := fun h => hs0 (hsd.1 h)
          simp only [Bool.not_eq_true] at hs0
          simp only [q2, hs0, decide_false, Bool.and_false, Bool.or_false, Bool.false_eq_true, if_false, ← List.take_succ_eq_append_getElem hk] at hall
          simp only [hn0, if_false] at hf
          simp [Try.ntmps91, Try.results91, cSl, cp0, cp1, cI, cD, cR, rCa, caDec, Ca.row, rPp, Pp.row, ppDec, hk, hj, hjw, hw, r, m0, m1, d0, d1, q0, q0p, q2, dp, aLookup, aMapUpdate, Try.underlying262, hko, hf, hp, lkRes]
          exact ⟨addK ks l[k].dirty, ⟨⟨hnx, hnd2⟩, hall⟩, rfl, fun x hx => hlw _ x hx⟩
      · simp only [q2, dp, decide_false, Bool.false_and, Bool.or_false, Bool.false_eq_true, if_false, ← List.take_succ_eq_append_getElem hk] at hall
        simp [Try.ntmps91, Try.results91, cSl, cp0, cp1, cI, cD, cR, rCa, caDec, Ca.row, rPp, Pp.row, ppDec, hk, hj, hjw, hw, r, m0, m1, d0, d1, q0, q0p, q2, dp, aLookup, aMapUpdate, Try.underlying262, hko, hp, lkRes]
        exact ⟨addK ks l[k].dirty, ⟨⟨hnx, hnd2⟩, hall⟩, rfl, fun x hx => hlw _ x hx⟩
  · rintro ks ⟨_, hall⟩
    simp [caGo] at hall
    simp [Try.ntmps91, Try.results91, cSl, cp0, cp1, cI, cD, cR, ← hall]
    done
end
section
attribute [local simp] Pg.eta Pg.cold Pg.mapM Pg.mapMc Pg.view Pg.viewc Pg.hotR Pg.ren Pg.renc Pg.low Pg.tau Pg.tauc Pg.bare Pg.flat Pg.flat1 Pg.mapMt Pg.mapMd Pg.coldt Pg.coldd Pg.hotRt Pg.hotRd
attribute [local simp] Pp.eta Pp.cold Pp.mapM Pp.mapMc Pp.view Pp.viewc Pp.hotR Pp.ren Pp.renc Pp.low Pp.tau Pp.tauc Pp.bare Pp.flat Pp.flat1 Pp.mapMt Pp.mapMd Pp.coldt Pp.coldd Pp.hotRt Pp.hotRd
attribute [local simp] Ca.eta Ca.dec_row Ca.dec_hrow Ca.cold Ca.hcold Ca.mapM Ca.mapMc Ca.hmapM Ca.hmapMc Ca.view Ca.viewc Ca.hview Ca.hviewc Ca.hotR Ca.ren Ca.renc Ca.low Ca.hlow
theorem mid_shr {i j : Nat} (h : i + j ≤ 4294967296) : IntKind.i64.wrap (ishr .u64 (IntKind.u64.wrap ((i : Int) + j)) 1) = (((i + j) / 2 : Nat) : Int) := by
  have h1 : IntKind.u64.wrap ((i : Int) + j) = (i : Int) + j := by simp [IntKind.wrap, IntKind.bits, IntKind.signed]; omega
  rw [h1]
  have h2 : ishr .u64 ((i : Int) + j) 1 = ((i : Int) + j) / 2 := by
    simp only [ishr, IntKind.bits]
    rw [show (2 : Int) ^ (min (1 : Int).toNat 64) = 2 by decide, Int.fdiv_eq_ediv_of_nonneg _ (by decide)]
  rw [h2, w64 (by omega) (by omega)]
  omega
theorem nmOrd : (Try.f160.name = "runtime.NumGoroutine") = False := eq_false (beq_eq_false_iff_ne.1 fxFm160)
theorem bs_pure : PureOk Try.prog 159 (argM (cSl rPp) fun l => argM (cAgg rPp) fun p => argM (cFn 160 rNil) fun f => finM (if l.length ≤ 64 ∧ l.Pairwise LtK then some (.v (.tuple #[.int .i64 (lowG l p.file p.n), .bool (hasG l p.file p.n)])) else none)) := by
  refine pure3 Try.func159 rfl ?_
  rintro l p f r hr
  by_cases hc : l.length ≤ 64 ∧ l.Pairwise LtK
  case neg => rw [if_neg hc] at hr; cases hr
  rw [if_pos hc] at hr
  simp only [Option.some.injEq] at hr
  subst hr
  refine body_gen (noOrc_ok.withP order_pure) fxMix (by kernel_rfl) (by simp [Try.ntmps159]) ?_
  intro C cP cI cN cD cF cA cR cL
  have cp0 := orcP order_pure (C := C) (by rw [cP]; rfl)
  replace cI : C.inl = fun _ => false := cI
  replace cR : C.rd = fun _ => none := cR
  replace cD : C.dyn = fun _ => [] := cD
  clear cP cN cF cA
  obtain ⟨hlen, hs⟩ := hc
  have hle := lowG_le l p.file p.n
  have hlow := lowG_iff (f := p.file) (n := p.n) hs
  simp [Try.ntmps159, Try.results159, cSl, cp0, cI, cD, cR, rPp, Pp.row, ppDec]
  refine loop_inv (σ := {q : Nat × Nat // q.1 ≤ lowG l p.file p.n ∧ lowG l p.file p.n ≤ q.2 ∧ q.2 ≤ l.length}) (fun q => ([(0, .fsl false 20 (l.map Pp.row)), (2, .fn 160 []), (4, .ptr 0 20 0 0), (8, .v (.int .i64 l.length)), (9, .v (.int .i64 q.val.1)), (10, .v (.int .i64 q.val.2))], [some (20, [p.row])])) (fun q => q.val.2 - q.val.1) ⟨(0, l.length), by omega, by omega, by omega⟩ (by simp [Pp.row]) ?_
  rintro ⟨⟨i, j⟩, h1, h2, h3⟩
  simp only at h1 h2 h3
  by_cases q : i < j
  · have hm : (i + j) / 2 < l.length := by omega
    have hlo := hlow ((i + j) / 2) hm
    have w1 : IntKind.i64.wrap ((i : Int) + j) = (i : Int) + j := by rw [w64 (by omega) (by omega)]
    have w2 := mid_shr (i := i) (j := j) (by omega)
    have w3 : IntKind.i64.wrap ((((i + j) / 2 : Nat) : Int) + 1) = (((i + j) / 2 + 1 : Nat) : Int) := by rw [w64 (by omega) (by omega)]; simp
    have w4 : 0 ≤ ((((i + j) / 2 : Nat)) : Int) := by omega
    have w5 : ((((i + j) / 2 : Nat)) : Int) < l.length := by omega
    generalize hmid : (i + j) / 2 = m at *
    by_cases q2 : ordK l[m] p.file p.n < 0
    · simp [Try.ntmps159, Try.results159, cSl, cp0, cI, cD, cR, rPp, Pp.row, ppDec, q, w1, w2, w3, w4, w5, hm, q2, nmOrd]
      exact ⟨m + 1, j, by omega, by simp, ⟨by omega, by omega, by omega⟩, rfl⟩
    · simp [Try.ntmps159, Try.results159, cSl, cp0, cI, cD, cR, rPp, Pp.row, ppDec, q, w1, w2, w3, w4, w5, hm, q2, nmOrd]
      exact ⟨i, m, by omega, rfl, ⟨by omega, by omega, by omega⟩, rfl⟩
  · have e : i = j := by omega
    subst e
    have e2 : i = lowG l p.file p.n := by omega
    subst e2
    by_cases q2 : lowG l p.file p.n < l.length
    · simp [Try.ntmps159, Try.results159, cSl, cp0, cI, cD, cR, rPp, Pp.row, ppDec, q, q2, hasG, nmOrd]
      first | done | rfl | (rw [Bool.eq_iff_iff]; simp)
    · simp [Try.ntmps159, Try.results159, cSl, cp0, cI, cD, cR, rPp, Pp.row, ppDec, q, q2, hasG, nmOrd]
def atE (c : Ca) (f n : Int) : AVal := if caChk c f n = 0 then .v (.tuple #[.int .i64 (lowG c.pages f n), .bool (hasG c.pages f n), .int .i64 0]) else .v (.tuple #[.int .i64 0, .bool false, .int .i64 (caChk c f n)])
theorem at_pure : PureOk Try.prog 89 (argM (cAgg rCa) fun c => argM (cInt .i64) fun f => argM (cInt .i64) fun n => finM (some (atE c f n))) := by
  refine pure3 Try.func89 rfl ?_
  rintro c f n r hr
  simp only [Option.some.injEq] at hr
  subst hr
  refine body_gen (((noOrc_ok.withP caCheck_pure).withP right_pure).withP bs_pure) fxMix (by kernel_rfl) (by simp [Try.ntmps89]) ?_
  intro C cP cI cN cD cF cA cR cL
  have cp0 := orcP caCheck_pure (C := C) (by rw [cP]; rfl)
  have cp1 := orcP right_pure (C := C) (by rw [cP]; rfl)
  have cp2 := orcP bs_pure (C := C) (by rw [cP]; rfl)
  replace cI : C.inl = fun _ => false := cI
  replace cR : C.rd = fun _ => none := cR
  replace cD : C.dyn = fun _ => [] := cD
  clear cP cN cF cA
  unfold atE caChk
  by_cases h0 : caCheck c = 0
  · have hg := caCheck_iff.1 h0
    have hc1 : (c.pages.length ≤ 64 ∧ c.pages.Pairwise LtK) = True := eq_true ⟨hg.len, hg.sorted⟩
    obtain ⟨l, T⟩ := c
    by_cases h1 : rightP f n = true
    · simp [Try.ntmps89, Try.results89, cSl, cp0, cp1, cp2, cI, cD, cR, rCa, caDec, Ca.row, rPp, ppDec, h0, h1, hc1]
      done
    · simp only [Bool.not_eq_true] at h1
      simp [Try.ntmps89, Try.results89, cSl, cp0, cp1, cp2, cI, cD, cR, rCa, caDec, Ca.row, rPp, ppDec, h0, h1]
      done
  · obtain ⟨l, T⟩ := c
    simp [Try.ntmps89, Try.results89, cSl, cp0, cp1, cp2, cI, cD, cR, rCa, caDec, Ca.row, rPp, ppDec, h0]
    done
def caThere (c : Ca) (f n : Int) : Int := if caChk c f n = 0 then (if hasG c.pages f n = true then 0 else 4) else caChk c f n
def lowT (c : Ca) (f n : Int) : Int := if caChk c f n = 0 then (lowG c.pages f n : Int) else 0
theorem there_pure : PureOk Try.prog 87 (argM (cAgg rCa) fun c => argM (cInt .i64) fun f => argM (cInt .i64) fun n => finM (some (.v (.tuple #[.int .i64 (lowT c f n), .int .i64 (caThere c f n)])))) := by
  refine pure3 Try.func87 rfl ?_
  rintro c f n r hr
  simp only [Option.some.injEq] at hr
  subst hr
  refine body_gen (noOrc_ok.withP at_pure) fxMix (by kernel_rfl) (by simp [Try.ntmps87]) ?_
  intro C cP cI cN cD cF cA cR cL
  have cp0 := orcP at_pure (C := C) (by rw [cP]; rfl)
  replace cI : C.inl = fun _ => false := cI
  replace cR : C.rd = fun _ => none := cR
  replace cD : C.dyn = fun _ => [] := cD
  clear cP cN cF cA
  unfold caThere lowT
  by_cases h0 : caChk c f n = 0
  · cases h1 : hasG c.pages f n <;> obtain ⟨l, T⟩ := c <;> simp only at h1 <;> simp [Try.ntmps87, Try.results87, cSl, cp0, cI, cD, cR, rCa, caDec, Ca.row, rPp, ppDec, atE, h0, h1]
  · obtain ⟨l, T⟩ := c
    simp [Try.ntmps87, Try.results87, cSl, cp0, cI, cD, cR, rCa, caDec, Ca.row, rPp, ppDec, atE, h0]
theorem caThere_iff {c : Ca} {f n : Int} : caThere c f n = 0 ↔ Good c ∧ rightP f n = true ∧ hasG c.pages f n = true := by
  unfold caThere
  split
  · rename_i h
    have := caChk_iff.1 h
    split
    · rename_i h2; simp [this.1, this.2, h2]
    · rename_i h2; simp [h2]
  · rename_i h
    simp only [h, false_iff]
    rintro ⟨h1, h2, _⟩
    exact h (caChk_iff.2 ⟨h1, h2⟩)
def caGet (c : Ca) (f n : Int) : Pg := if caThere c f n = 0 then ((c.pages[lowG c.pages f n]?).getD ⟨0, 0, 0, 0, noPg⟩).data else noPg
def pgV (d : Pg) : Value := .agg #[.int .u8 d.b0, .int .u8 d.b1, .int .u8 d.b2, .int .u8 d.b3, .int .u8 d.b4, .int .u8 d.b5, .int .u8 d.b6, .int .u8 d.b7, .int .u8 d.b8, .int .u8 d.b9, .int .u8 d.b10, .int .u8 d.b11, .int .u8 d.b12, .int .u8 d.b13, .int .u8 d.b14, .int .u8 d.b15]
end
end
section
def putB (d : Pg) (k : Nat) (b : Int) : Pg := match k with
  | 0 => { d with b0 := b } | 1 => { d with b1 := b } | 2 => { d with b2 := b } | 3 => { d with b3 := b }
  | 4 => { d with b4 := b } | 5 => { d with b5 := b } | 6 => { d with b6 := b } | 7 => { d with b7 := b }
  | 8 => { d with b8 := b } | 9 => { d with b9 := b } | 10 => { d with b10 := b } | 11 => { d with b11 := b }
  | 12 => { d with b12 := b } | 13 => { d with b13 := b } | 14 => { d with b14 := b } | _ => { d with b15 := b }
def noPp : Pp := ⟨0, 0, 0, 0, noPg⟩
def pgAt (c : Ca) (f n : Int) : Pp := (c.pages[lowG c.pages f n]?).getD noPp
def insG (l : List Pp) (i : Nat) (p : Pp) : List Pp := l.take i ++ p :: l.drop i
def caBring (c : Ca) (f n : Int) (d : Pg) : Except Int Ca :=
  if caChk c f n = 0 then (if hasG c.pages f n = true then .error 5 else if c.pages.length = 64 then .error 6 else .ok ⟨insG c.pages (lowG c.pages f n) ⟨f, n, 0, 0, d⟩, c.clock⟩) else .error (caChk c f n)
def setP (c : Ca) (p : Pp) (k : Nat) (b : Int) : Pp := ⟨p.file, p.n, p.maps, if p.dirty = 0 then c.clock else p.dirty, putB p.data k b⟩
def caSet (c : Ca) (f n k b : Int) : Except Int Ca :=
  if caThere c f n = 0 then (if k < 0 ∨ 16 ≤ k then .error 1 else if c.clock = 1073741824 then .error 6 else .ok ⟨c.pages.set (lowG c.pages f n) (setP c (pgAt c f n) k.toNat b), if (pgAt c f n).dirty = 0 then c.clock + 1 else c.clock⟩) else .error (caThere c f n)
def mapP (p : Pp) (m : Int) : Pp := ⟨p.file, p.n, p.maps + m, p.dirty, p.data⟩
def caMap (c : Ca) (f n m : Int) : Except Int Ca :=
  if caThere c f n = 0 then (if m ≠ 1 ∧ m ≠ -1 then .error 1 else if (pgAt c f n).maps + m < 0 ∨ 64 < (pgAt c f n).maps + m then .error 8 else .ok ⟨c.pages.set (lowG c.pages f n) (mapP (pgAt c f n) m), c.clock⟩) else .error (caThere c f n)
def caOut (c : Ca) (f n : Int) : Except Int Ca :=
  if caThere c f n = 0 then (if 0 < (pgAt c f n).maps ∨ 0 < (pgAt c f n).dirty then .error 8 else .ok ⟨c.pages.eraseIdx (lowG c.pages f n), c.clock⟩) else .error (caThere c f n)
def cleanP (p : Pp) : Pp := ⟨p.file, p.n, p.maps, 0, p.data⟩
def bestB (l : List Pp) (p : Pp) : Bool := decide (0 < p.dirty) && l.all (fun q => decide (0 < q.dirty → p.dirty ≤ q.dirty))
def caBest (l : List Pp) : Option Nat := l.findIdx? (bestB l)
/-- the place of a page that is there -/
theorem pgAt_eq {c : Ca} {f n : Int} (h : hasG c.pages f n = true) : ∃ hi : lowG c.pages f n < c.pages.length, pgAt c f n = c.pages[lowG c.pages f n] ∧ (pgAt c f n).file = f ∧ (pgAt c f n).n = n := by
  obtain ⟨hi, h1, h2⟩ := hasG_iff.1 h
  have e : pgAt c f n = c.pages[lowG c.pages f n] := by simp [pgAt, hi]
  exact ⟨hi, e, by rw [e]; exact h1, by rw [e]; exact h2⟩
theorem pw_set {α : Type} {R : α → α → Prop} {l : List α} {i : Nat} {x : α} (hi : i < l.length) (h : l.Pairwise R) (h1 : ∀ y, R y l[i] → R y x) (h2 : ∀ y, R l[i] y → R x y) : (l.set i x).Pairwise R := by
  rw [List.pairwise_iff_getElem] at h ⊢
  intro a b ha hb hab
  rw [List.length_set] at ha hb
  rw [List.getElem_set, List.getElem_set]
  have := h a b ha hb hab
  split
  · rename_i e; subst e
    split
    · omega
    · exact h2 _ this
  · split
    · rename_i e; subst e
      exact h1 _ this
    · exact this
/-- another page at its place, of the same name -/
theorem Good.set {c : Ca} {i : Nat} {p : Pp} {T : Int} (g : Good c) (hi : i < c.pages.length) (hf : p.file = c.pages[i].file) (hn : p.n = c.pages[i].n) (hT : c.clock ≤ T) (hT2 : T ≤ 1073741824) (hb : badP T p = false) (hd : p.dirty = 0 ∨ p.dirty = c.pages[i].dirty ∨ c.clock ≤ p.dirty) : Good ⟨c.pages.set i p, T⟩ where
  len := by simpa using g.len
  c1 := by have := g.c1; simp only; omega
  c2 := hT2
  each q hq := by
    rcases List.mem_or_eq_of_mem_set hq with hq | hq
    · have := badP_iff.1 (g.each q hq)
      rw [badP_iff]
      exact ⟨this.1, this.2.1, this.2.2.1, this.2.2.2.1, by simp only; omega⟩
    · subst hq; exact hb
  sorted := pw_set hi g.sorted (fun y h => by rw [LtK_iff] at h ⊢; rw [hf, hn]; exact h) (fun y h => by rw [LtK_iff] at h ⊢; rw [hf, hn]; exact h)
  diff := by
    have hlt : ∀ y ∈ c.pages, y.dirty < c.clock := fun y hy => (badP_iff.1 (g.each y hy)).2.2.2.2
    have h := g.diff
    simp only
    rw [List.pairwise_iff_getElem] at h ⊢
    intro a b ha hb' hab
    rw [List.length_set] at ha hb'
    have hab1 := h a b ha hb' hab
    have q1 := hlt _ (List.getElem_mem ha)
    have q2 := hlt _ (List.getElem_mem hb')
    rw [List.getElem_set, List.getElem_set]
    unfold DfK at hab1 ⊢
    by_cases ea : i = a
    · have eb : ¬ i = b := by omega
      rw [if_pos ea, if_neg eb]
      subst ea
      intro h3; have := hab1 h3; omega
    · by_cases eb : i = b
      · rw [if_neg ea, if_pos eb]
        subst eb
        intro h3
        rcases hd with hd | hd | hd
        · omega
        · have := hab1 (by omega); omega
        · omega
      · rw [if_neg ea, if_neg eb]; exact hab1
theorem set_low {c : Ca} {i : Nat} {p : Pp} {T : Int} (g : Good c) (g2 : Good ⟨c.pages.set i p, T⟩) (hi : i < c.pages.length) (hf : p.file = c.pages[i].file) (hn : p.n = c.pages[i].n) (f n : Int) :
    hasG (c.pages.set i p) f n = hasG c.pages f n ∧ lowG (c.pages.set i p) f n = lowG c.pages f n := by
  have key : ∀ j (hj : j < c.pages.length), ordK ((c.pages.set i p)[j]'(by simpa using hj)) f n = ordK c.pages[j] f n := by
    intro j hj
    rw [List.getElem_set]
    split
    · rename_i e; subst e; unfold ordK; rw [hf, hn]
    · rfl
  have hl : lowG (c.pages.set i p) f n = lowG c.pages f n := by
    have h1 := lowG_iff (f := f) (n := n) g.sorted
    have h2 := lowG_iff (f := f) (n := n) g2.sorted
    have l1 := lowG_le c.pages f n
    have l2 := lowG_le (c.pages.set i p) f n
    rw [List.length_set] at l2
    simp only [List.length_set] at h2
    by_cases hlt : lowG (c.pages.set i p) f n < lowG c.pages f n
    · have a1 := (h1 (lowG (c.pages.set i p) f n) (by omega)).2 hlt
      have a2 := h2 (lowG (c.pages.set i p) f n) (by omega)
      rw [key _ (by omega)] at a2
      have := a2.1 a1
      omega
    · by_cases hgt : lowG c.pages f n < lowG (c.pages.set i p) f n
      · have a1 := (h2 (lowG c.pages f n) (by omega)).2 hgt
        rw [key _ (by omega)] at a1
        have := (h1 (lowG c.pages f n) (by omega)).1 a1
        omega
      · omega
  refine ⟨?_, hl⟩
  rw [Bool.eq_iff_iff, hasG_iff, hasG_iff]
  have e2 : ∀ j (hj : j < c.pages.length), ((c.pages.set i p)[j]'(by simpa using hj)).file = c.pages[j].file ∧ ((c.pages.set i p)[j]'(by simpa using hj)).n = c.pages[j].n := by
    intro j hj
    rw [List.getElem_set]
    split
    · rename_i e; subst e; exact ⟨hf, hn⟩
    · exact ⟨rfl, rfl⟩
  constructor
  · rintro ⟨h, h3, h4⟩
    rw [List.length_set, hl] at h
    have := e2 _ h
    simp only [hl] at h3 h4
    exact ⟨h, this.1 ▸ h3, this.2 ▸ h4⟩
  · rintro ⟨h, h3, h4⟩
    have := e2 _ h
    refine ⟨by rw [List.length_set, hl]; exact h, ?_, ?_⟩
    · simp only [hl]; rw [this.1]; exact h3
    · simp only [hl]; rw [this.2]; exact h4
end
section
theorem caThere_of {c : Ca} {f n : Int} (g : Good c) (hr : rightP f n = true) : caThere c f n = if hasG c.pages f n = true then 0 else 4 := by
  unfold caThere
  rw [if_pos (caChk_iff.2 ⟨g, hr⟩)]
theorem there_same {c x : Ca} (g : Good c) (g2 : Good x) {f n : Int} (h : hasG x.pages f n = hasG c.pages f n) : caThere x f n = caThere c f n := by
  unfold caThere caChk
  rw [caCheck_iff.2 g, caCheck_iff.2 g2, h]
theorem set_err {c : Ca} {f n k b e : Int} (h : caSet c f n k b = .error e) : e ≠ 0 := by
  unfold caSet at h
  split at h
  · split at h
    · cases h; decide
    · split at h
      · cases h; decide
      · cases h
  · rename_i h0; cases h; exact h0
theorem set_ok {c x : Ca} {f n k b : Int} (h : caSet c f n k b = .ok x) : Good c ∧ caThere c f n = 0 ∧ hasG c.pages f n = true ∧ 0 ≤ k ∧ k < 16 ∧ x = ⟨c.pages.set (lowG c.pages f n) (setP c (pgAt c f n) k.toNat b), if (pgAt c f n).dirty = 0 then c.clock + 1 else c.clock⟩ ∧ Good x := by
  unfold caSet at h
  split at h
  case isFalse => cases h
  rename_i h0
  split at h
  · cases h
  rename_i h1
  split at h
  · cases h
  rename_i h2
  cases h
  obtain ⟨g, hr, hh⟩ := caThere_iff.1 h0
  obtain ⟨hi, hp, hf, hn⟩ := pgAt_eq hh
  have hb := badP_iff.1 (g.each _ (List.getElem_mem hi))
  rw [← hp] at hb
  have hc2 := g.c2
  have hc1 := g.c1
  refine ⟨g, h0, hh, by omega, by omega, rfl, ?_⟩
  refine g.set hi (by rw [← hp]; rfl) (by rw [← hp]; rfl) (by split <;> omega) (by split <;> omega) ?_ ?_
  · rw [badP_iff]
    refine ⟨hb.1, hb.2.1, hb.2.2.1, ?_, ?_⟩
    · simp only [setP]; split <;> omega
    · simp only [setP]; split <;> omega
  · rw [← hp]
    simp only [setP]
    split
    · exact .inr (.inr (Int.le_refl _))
    · exact .inr (.inl rfl)
theorem sets_spec {c x : Ca} {f n k b : Int} (h : caSet c f n k b = .ok x) : caCheck c = 0 ∧ caCheck x = 0 ∧ caThere c f n = 0 ∧ caThere x f n = 0 ∧ 0 ≤ k ∧ k < 16 ∧ caGet x f n = putB (caGet c f n) k.toNat b ∧ x.pages.length = c.pages.length ∧
    (∀ (i : Nat) (hi : i < c.pages.length) (hx : i < x.pages.length), (c.pages[i].file = f ∧ c.pages[i].n = n ∧ x.pages[i].file = f ∧ x.pages[i].n = n ∧ x.pages[i].dirty ≠ 0 ∧ (0 < c.pages[i].dirty → x.pages[i].dirty = c.pages[i].dirty)) ∨ (¬ (c.pages[i].file = f ∧ c.pages[i].n = n) ∧ x.pages[i] = c.pages[i])) ∧
    ∀ o : Int, caThere x f o = caThere c f o ∧ (o ≠ n → caGet x f o = caGet c f o) := by
  obtain ⟨g, h0, hh, k0, k1, rfl, gx⟩ := set_ok h
  obtain ⟨hi, hp, hf, hn⟩ := pgAt_eq hh
  have hsl := fun f' o' => set_low g gx hi (p := setP c (pgAt c f n) k.toNat b) (by rw [← hp]; rfl) (by rw [← hp]; rfl) f' o'
  have hth : ∀ o, caThere _ f o = caThere c f o := fun o => there_same g gx (hsl f o).1
  have hc1 := g.c1
  refine ⟨caCheck_iff.2 g, caCheck_iff.2 gx, h0, by rw [hth]; exact h0, k0, k1, ?_, by simp, ?_, fun o => ⟨hth o, ?_⟩⟩
  · unfold caGet
    rw [hth, if_pos h0, if_pos h0]
    simp only [(hsl f n).2]
    rw [List.getElem?_set_self hi, List.getElem?_eq_getElem hi, ← hp]
    rfl
  · intro i hi1 hi2
    simp only [List.getElem_set]
    by_cases e : lowG c.pages f n = i
    · left
      subst e
      rw [if_pos rfl, ← hp]
      refine ⟨hf, hn, hf, hn, ?_, ?_⟩
      · simp only [setP]; split <;> omega
      · intro h3; simp only [setP]; rw [if_neg (by omega)]
    · right
      rw [if_neg e]
      refine ⟨?_, rfl⟩
      rintro ⟨h3, h4⟩
      have := low_at g.sorted i hi1
      rw [h3, h4] at this
      exact e this
  · intro ho
    unfold caGet
    rw [hth]
    split
    · rename_i h3
      obtain ⟨_, _, hh2⟩ := caThere_iff.1 h3
      obtain ⟨hi3, hf3, hn3⟩ := hasG_iff.1 hh2
      simp only [(hsl f o).2]
      have hne : lowG c.pages f n ≠ lowG c.pages f o := by
        intro e
        have : c.pages[lowG c.pages f o].n = n := by rw [← hn, hp]; simp [e]
        omega
      rw [List.getElem?_set_ne hne]
    · rfl
def keyB (f n : Int) (p : Pp) : Bool := decide (p.file = f ∧ p.n = n)
theorem idx_low {l : List Pp} (hs : l.Pairwise LtK) {f n : Int} {i : Nat} (hi : i < l.length) (hk : keyB f n l[i] = true) : hasG l f n = true ∧ lowG l f n = i := by
  simp only [keyB, decide_eq_true_eq] at hk
  have h1 := has_at hs i hi
  have h2 := low_at hs i hi
  rw [hk.1, hk.2] at h1 h2
  exact ⟨h1, h2⟩
theorem out_err {c : Ca} {f n e : Int} (h : caOut c f n = .error e) : e ≠ 0 := by
  unfold caOut at h
  split at h
  · split at h
    · cases h; decide
    · cases h
  · rename_i h0; cases h; exact h0
theorem out_ok {c x : Ca} {f n : Int} (h : caOut c f n = .ok x) : Good c ∧ rightP f n = true ∧ hasG c.pages f n = true ∧ ¬ 0 < (pgAt c f n).maps ∧ ¬ 0 < (pgAt c f n).dirty ∧ x = ⟨c.pages.eraseIdx (lowG c.pages f n), c.clock⟩ ∧ Good x := by
  unfold caOut at h
  split at h
  case isFalse => cases h
  rename_i h0
  split at h
  · cases h
  rename_i h1
  cases h
  obtain ⟨g, hr, hh⟩ := caThere_iff.1 h0
  refine ⟨g, hr, hh, by omega, by omega, rfl, ?_⟩
  have hsub : (c.pages.eraseIdx (lowG c.pages f n)).Sublist c.pages := List.eraseIdx_sublist _ _
  exact ⟨Nat.le_trans hsub.length_le g.len, g.c1, g.c2, fun p hp => g.each p (hsub.subset hp), g.sorted.sublist hsub, g.diff.sublist hsub⟩
theorem out_gone {c x : Ca} {f n : Int} (h : caOut c f n = .ok x) : caCheck x = 0 ∧ caThere x f n = 4 ∧ x.pages.length + 1 = c.pages.length := by
  obtain ⟨g, hr, hh, _, _, rfl, gx⟩ := out_ok h
  obtain ⟨hi, _⟩ := hasG_iff.1 hh
  refine ⟨caCheck_iff.2 gx, ?_, ?_⟩
  · rw [caThere_of gx hr, if_neg]
    intro h2
    obtain ⟨p, hp, hf, hn⟩ := (hasG_mem gx.sorted).1 h2
    obtain ⟨j, hj, rfl⟩ := List.getElem_of_mem hp
    simp only [List.length_eraseIdx, hi, if_true] at hj
    simp only [List.getElem_eraseIdx] at hf hn
    split at hf
    · rename_i hlt
      rw [dif_pos hlt] at hn
      have := (idx_low g.sorted (f := f) (n := n) (i := j) (by omega) (by simp [keyB, hf, hn])).2
      omega
    · rename_i hlt
      rw [dif_neg hlt] at hn
      have := (idx_low g.sorted (f := f) (n := n) (i := j + 1) (by omega) (by simp [keyB, hf, hn])).2
      omega
  · simp only [List.length_eraseIdx, hi, if_true]; omega
/-- what a page's going says, place and all -/
theorem held_idx {c : Ca} (g : Good c) {f n : Int} {i : Nat} (hi : i < c.pages.length) (hk : keyB f n c.pages[i] = true) : caThere c f n = 0 ∧ pgAt c f n = c.pages[i] := by
  obtain ⟨h1, h2⟩ := idx_low g.sorted hi hk
  have hb := (badP_iff.1 (g.each _ (List.getElem_mem hi))).1
  simp only [keyB, decide_eq_true_eq] at hk
  rw [hk.1, hk.2] at hb
  refine ⟨by rw [caThere_of g hb, if_pos h1], ?_⟩
  simp [pgAt, h2, hi]
theorem held_none {c : Ca} {f n : Int} (h : ∀ p ∈ c.pages, keyB f n p = false) : caThere c f n ≠ 0 := by
  intro h0
  obtain ⟨g, _, hh⟩ := caThere_iff.1 h0
  obtain ⟨p, hp, h1, h2⟩ := (hasG_mem g.sorted).1 hh
  have := h p hp
  simp [keyB, h1, h2] at this
theorem bring_err {c : Ca} {f n e : Int} {d : Pg} (h : caBring c f n d = .error e) : e ≠ 0 := by
  unfold caBring at h
  split at h
  · split at h
    · cases h; decide
    · split at h
      · cases h; decide
      · cases h
  · rename_i h0; cases h; exact h0
theorem bring_ok {c x : Ca} {f n : Int} {d : Pg} (h : caBring c f n d = .ok x) : Good c ∧ c.pages.length < 64 ∧ x = ⟨insG c.pages (lowG c.pages f n) ⟨f, n, 0, 0, d⟩, c.clock⟩ ∧ Good x ∧ caThere x f n = 0 ∧ caGet x f n = d ∧ caOut x f n = .ok c := by
  unfold caBring at h
  split at h
  case isFalse => cases h
  rename_i h0
  split at h
  · cases h
  rename_i h1
  split at h
  · cases h
  rename_i h2
  cases h
  obtain ⟨g, hr⟩ := caChk_iff.1 h0
  have hl := g.len
  have hle := lowG_le c.pages f n
  have hlo := lowG_iff (f := f) (n := n) g.sorted
  have hno : ∀ p ∈ c.pages, ¬ (p.file = f ∧ p.n = n) := fun p hp hh => h1 ((hasG_mem g.sorted).2 ⟨p, hp, hh⟩)
  have hb : badP c.clock ⟨f, n, 0, 0, d⟩ = false := by
    rw [badP_iff]; have := g.c1; exact ⟨hr, by simp, by simp, by simp, by simp only; omega⟩
  have hbef : ∀ p ∈ c.pages.take (lowG c.pages f n), LtK p ⟨f, n, 0, 0, d⟩ := by
    intro p hp
    obtain ⟨j, hj, rfl⟩ := List.getElem_of_mem hp
    simp only [List.length_take] at hj
    rw [List.getElem_take]
    exact (hlo j (by omega)).2 (by omega)
  have haft : ∀ p ∈ c.pages.drop (lowG c.pages f n), LtK ⟨f, n, 0, 0, d⟩ p := by
    intro p hp
    have hp2 := List.mem_of_mem_drop hp
    obtain ⟨j, hj, rfl⟩ := List.getElem_of_mem hp
    simp only [List.length_drop] at hj
    rw [List.getElem_drop] at hp2 ⊢
    have a1 := hlo (lowG c.pages f n + j) (by omega)
    have a2 := hno _ hp2
    rw [ordK_lt] at a1
    rw [LtK_iff]
    simp only
    omega
  have hsp : c.pages = c.pages.take (lowG c.pages f n) ++ c.pages.drop (lowG c.pages f n) := (List.take_append_drop _ _).symm
  have hso := g.sorted
  have hdf := g.diff
  rw [hsp, List.pairwise_append] at hso hdf
  have gx : Good ⟨insG c.pages (lowG c.pages f n) ⟨f, n, 0, 0, d⟩, c.clock⟩ := by
    refine ⟨by simp [insG]; omega, g.c1, g.c2, ?_, ?_, ?_⟩
    · intro p hp
      simp only [insG, List.mem_append, List.mem_cons] at hp
      rcases hp with hp | rfl | hp
      · exact g.each p (List.mem_of_mem_take hp)
      · exact hb
      · exact g.each p (List.mem_of_mem_drop hp)
    · simp only [insG, List.pairwise_append, List.pairwise_cons, List.mem_cons]
      refine ⟨hso.1, ⟨haft, hso.2.1⟩, ?_⟩
      rintro a ha b (rfl | hb2)
      · exact hbef a ha
      · exact hso.2.2 a ha b hb2
    · simp only [insG, List.pairwise_append, List.pairwise_cons, List.mem_cons]
      refine ⟨hdf.1, ⟨?_, hdf.2.1⟩, ?_⟩
      · intro b hb2 h3
        simp only; omega
      · rintro a ha b (rfl | hb2)
        · intro h3; simp at h3
        · exact hdf.2.2 a ha b hb2
  have hlen : lowG c.pages f n < (insG c.pages (lowG c.pages f n) ⟨f, n, 0, 0, d⟩).length := by simp [insG]; omega
  have hget : (insG c.pages (lowG c.pages f n) ⟨f, n, 0, 0, d⟩)[lowG c.pages f n]'hlen = ⟨f, n, 0, 0, d⟩ := by
    simp only [insG]
    rw [List.getElem_append_right (by rw [List.length_take]; omega)]
    simp [Nat.min_eq_left hle]
  obtain ⟨e1, e2⟩ := idx_low gx.sorted (f := f) (n := n) hlen (by rw [hget]; simp [keyB])
  have hth : caThere ⟨insG c.pages (lowG c.pages f n) ⟨f, n, 0, 0, d⟩, c.clock⟩ f n = 0 := by rw [caThere_of gx hr, if_pos e1]
  refine ⟨g, by omega, rfl, gx, hth, ?_, ?_⟩
  · unfold caGet
    rw [if_pos hth]
    simp only [e2]
    rw [List.getElem?_eq_getElem hlen, hget]
    rfl
  · unfold caOut
    rw [if_pos hth]
    have hpa : pgAt ⟨insG c.pages (lowG c.pages f n) ⟨f, n, 0, 0, d⟩, c.clock⟩ f n = ⟨f, n, 0, 0, d⟩ := by
      unfold pgAt
      simp only [e2]
      rw [List.getElem?_eq_getElem hlen, hget]
      rfl
    rw [hpa, if_neg (by simp)]
    simp only [e2]
    congr 1
    obtain ⟨l, T⟩ := c
    simp only at *
    congr 1
    rw [insG, List.eraseIdx_append_of_length_le (by rw [List.length_take]; omega)]
    simp [Nat.min_eq_left hle]
theorem map_err {c : Ca} {f n m e : Int} (h : caMap c f n m = .error e) : e ≠ 0 := by
  unfold caMap at h
  split at h
  · split at h
    · cases h; decide
    · split at h
      · cases h; decide
      · cases h
  · rename_i h0; cases h; exact h0
theorem map_back {c x : Ca} {f n : Int} (h : caMap c f n 1 = .ok x) : Good c ∧ x.clock = c.clock ∧ x.pages.length = c.pages.length ∧ caMap x f n (-1) = .ok c := by
  unfold caMap at h
  split at h
  case isFalse => cases h
  rename_i h0
  rw [if_neg (by omega)] at h
  split at h
  · cases h
  rename_i h2
  cases h
  obtain ⟨g, hr, hh⟩ := caThere_iff.1 h0
  obtain ⟨hi, hp, hf, hn⟩ := pgAt_eq hh
  have hb := badP_iff.1 (g.each _ (List.getElem_mem hi))
  rw [← hp] at hb
  have gx : Good ⟨c.pages.set (lowG c.pages f n) (mapP (pgAt c f n) 1), c.clock⟩ := by
    refine g.set hi (by rw [← hp]; rfl) (by rw [← hp]; rfl) (Int.le_refl _) g.c2 ?_ (.inr (.inl (by rw [← hp]; rfl)))
    rw [badP_iff]
    exact ⟨hb.1, by simp only [mapP]; omega, by simp only [mapP]; omega, hb.2.2.2.1, hb.2.2.2.2⟩
  obtain ⟨s1, s2⟩ := set_low g gx hi (p := mapP (pgAt c f n) 1) (by rw [← hp]; rfl) (by rw [← hp]; rfl) f n
  have hth : caThere ⟨c.pages.set (lowG c.pages f n) (mapP (pgAt c f n) 1), c.clock⟩ f n = 0 := by rw [there_same g gx s1]; exact h0
  refine ⟨g, rfl, by simp, ?_⟩
  unfold caMap
  rw [if_pos hth, if_neg (by omega)]
  have hpa : pgAt ⟨c.pages.set (lowG c.pages f n) (mapP (pgAt c f n) 1), c.clock⟩ f n = mapP (pgAt c f n) 1 := by
    show ((c.pages.set (lowG c.pages f n) (mapP (pgAt c f n) 1))[lowG (c.pages.set (lowG c.pages f n) (mapP (pgAt c f n) 1)) f n]?).getD noPp = _
    rw [s2, List.getElem?_set_self hi]
    rfl
  rw [hpa, if_neg (by simp only [mapP]; omega)]
  simp only [s2, List.set_set]
  congr 1
  have e : mapP (mapP (pgAt c f n) 1) (-1) = c.pages[lowG c.pages f n] := by
    rw [← hp]
    generalize pgAt c f n = p
    obtain ⟨a1, a2, a3, a4, a5⟩ := p
    simp only [mapP, Pp.mk.injEq, and_true, true_and]
    omega
  rw [e, List.set_getElem_self]
end
section
theorem best_min {l : List Pp} (h : ∃ p ∈ l, 0 < p.dirty) : ∃ p ∈ l, 0 < p.dirty ∧ ∀ q ∈ l, 0 < q.dirty → p.dirty ≤ q.dirty := by
  induction l with
  | nil => obtain ⟨p, hp, _⟩ := h; simp at hp
  | cons a l ih =>
    by_cases h1 : ∃ p ∈ l, 0 < p.dirty
    · obtain ⟨p, hp, hd, hm⟩ := ih h1
      by_cases h2 : 0 < a.dirty ∧ a.dirty < p.dirty
      · refine ⟨a, by simp, h2.1, ?_⟩
        intro q hq hq2
        rcases List.mem_cons.1 hq with rfl | hq
        · omega
        · have := hm q hq hq2; omega
      · refine ⟨p, by simp [hp], hd, ?_⟩
        intro q hq hq2
        rcases List.mem_cons.1 hq with rfl | hq
        · omega
        · exact hm q hq hq2
    · obtain ⟨p, hp, hd⟩ := h
      rcases List.mem_cons.1 hp with rfl | hp
      · refine ⟨p, by simp, hd, ?_⟩
        intro q hq hq2
        rcases List.mem_cons.1 hq with rfl | hq
        · omega
        · exact absurd ⟨q, hq, hq2⟩ h1
      · exact absurd ⟨p, hp, hd⟩ h1
theorem bestB_iff {l : List Pp} {p : Pp} : bestB l p = true ↔ 0 < p.dirty ∧ ∀ q ∈ l, 0 < q.dirty → p.dirty ≤ q.dirty := by
  simp only [bestB, Bool.and_eq_true, decide_eq_true_eq, List.all_eq_true]
theorem best_none {l : List Pp} (h : caBest l = none) : ∀ p ∈ l, ¬ 0 < p.dirty := by
  unfold caBest at h
  rw [List.findIdx?_eq_none_iff] at h
  intro p hp h2
  obtain ⟨q, hq, h3, h4⟩ := best_min ⟨p, hp, h2⟩
  have := h q hq
  rw [bestB_iff.2 ⟨h3, h4⟩] at this
  cases this
theorem best_some {l : List Pp} {i : Nat} (h : caBest l = some i) : ∃ hi : i < l.length, 0 < l[i].dirty ∧ ∀ q ∈ l, 0 < q.dirty → l[i].dirty ≤ q.dirty := by
  unfold caBest at h
  rw [List.findIdx?_eq_some_iff_getElem] at h
  obtain ⟨hi, h1, _⟩ := h
  exact ⟨hi, bestB_iff.1 h1⟩
theorem dirty_one {l : List Pp} (h : l.Pairwise DfK) {i j : Nat} (hi : i < l.length) (hj : j < l.length) (h0 : 0 < l[i].dirty) (he : l[i].dirty = l[j].dirty) : i = j := by
  rw [List.pairwise_iff_getElem] at h
  rcases Nat.lt_trichotomy i j with h1 | h1 | h1
  · exact absurd he (h i j hi hj h1 (by omega))
  · exact h1
  · exact absurd he.symm (h j i hj hi h1 h0)
theorem best_is {l : List Pp} (h : l.Pairwise DfK) {j : Nat} (hj : j < l.length) (h0 : 0 < l[j].dirty) (hm : ∀ i (hi : i < l.length), 0 < l[i].dirty → l[j].dirty ≤ l[i].dirty) : caBest l = some j := by
  cases hb : caBest l with
  | none => exact absurd h0 (best_none hb _ (List.getElem_mem hj))
  | some i =>
    obtain ⟨hi, h1, h2⟩ := best_some hb
    have a1 := h2 _ (List.getElem_mem hj) h0
    have a2 := hm i hi h1
    rw [dirty_one h hi hj h1 (by omega)]
theorem best_nil {l : List Pp} (h : ∀ i (hi : i < l.length), ¬ 0 < l[i].dirty) : caBest l = none := by
  cases hb : caBest l with
  | none => rfl
  | some i =>
    obtain ⟨hi, h1, _⟩ := best_some hb
    exact absurd h1 (h i hi)
def nD (l : List Pp) : Nat := l.countP (fun p => decide (0 < p.dirty))
structure Chain (c a : Ca) (last : Int) : Prop where
  good : Good a
  len : a.pages.length = c.pages.length
  same : ∀ (i : Nat) (hi : i < a.pages.length) (hc : i < c.pages.length), a.pages[i].data = c.pages[i].data ∧ a.pages[i].maps = c.pages[i].maps
  big : ∀ p ∈ a.pages, 0 < p.dirty → last < p.dirty
theorem Chain.start {c : Ca} (g : Good c) : Chain c c 0 := ⟨g, rfl, fun _ _ _ => ⟨rfl, rfl⟩, fun _ _ h => h⟩
theorem good_clean {a : Ca} (g : Good a) {i : Nat} (hi : i < a.pages.length) : Good ⟨a.pages.set i (cleanP a.pages[i]), a.clock⟩ := by
  have hb := badP_iff.1 (g.each _ (List.getElem_mem hi))
  have := g.c1
  refine g.set hi rfl rfl (Int.le_refl _) g.c2 ?_ (.inl rfl)
  rw [badP_iff]
  exact ⟨hb.1, hb.2.1, hb.2.2.1, by simp [cleanP], by simp only [cleanP]; omega⟩
theorem Chain.step {c a : Ca} {last : Int} (h : Chain c a last) {i : Nat} (hb : caBest a.pages = some i) : ∃ hi : i < a.pages.length, last < a.pages[i].dirty ∧ 0 < a.pages[i].dirty ∧ Chain c ⟨a.pages.set i (cleanP a.pages[i]), a.clock⟩ a.pages[i].dirty ∧ nD (a.pages.set i (cleanP a.pages[i])) + 1 = nD a.pages := by
  obtain ⟨hi, h1, h2⟩ := best_some hb
  refine ⟨hi, h.big _ (List.getElem_mem hi) h1, h1, ⟨good_clean h.good hi, by simpa using h.len, ?_, ?_⟩, ?_⟩
  · intro j hj hc
    simp only [List.length_set] at hj
    have := h.same j hj hc
    simp only [List.getElem_set]
    split
    · rename_i e; subst e; exact this
    · exact this
  · intro p hp h3
    obtain ⟨j, hj, rfl⟩ := List.getElem_of_mem hp
    simp only [List.length_set] at hj
    simp only [List.getElem_set] at h3 ⊢
    split at h3
    · simp [cleanP] at h3
    · rename_i hne
      rw [if_neg hne]
      have a1 := h2 _ (List.getElem_mem hj) h3
      rcases Int.lt_or_eq_of_le a1 with a2 | a2
      · exact a2
      · exact absurd (dirty_one h.good.diff hi hj h1 a2) hne
  · unfold nD
    rw [List.countP_set hi]
    simp only [h1, decide_true, if_true, cleanP]
    have : 0 < a.pages.countP (fun p => decide (0 < p.dirty)) := List.countP_pos_iff.2 ⟨_, List.getElem_mem hi, by simpa using h1⟩
    simp
    omega
theorem nD_none {l : List Pp} (h : nD l = 0) : caBest l = none := by
  apply best_nil
  intro i hi h2
  unfold nD at h
  rw [List.countP_eq_zero] at h
  have := h _ (List.getElem_mem hi)
  simp [h2] at this
theorem nD_some {l : List Pp} (h : 0 < nD l) : ∃ i, caBest l = some i := by
  cases hb : caBest l with
  | some i => exact ⟨i, rfl⟩
  | none =>
    unfold nD at h
    rw [List.countP_pos_iff] at h
    obtain ⟨p, hp, h2⟩ := h
    exact absurd (by simpa using h2) (best_none hb p hp)
theorem nD_zero {l : List Pp} {k : Int} (h : nD l = 0) (hb : ∀ p ∈ l, badP k p = false) : ∀ p ∈ l, p.dirty = 0 := by
  intro p hp
  unfold nD at h
  rw [List.countP_eq_zero] at h
  have h1 := h p hp
  have h2 := badP_iff.1 (hb p hp)
  simp at h1
  omega
end
section
set_option maxHeartbeats 2000000
set_option maxRecDepth 100000
set_option linter.unusedSimpArgs false
set_option linter.unusedVariables false
attribute [local simp] wpA wpX RunA RunD runF foot footP footB idsA bare apart runL step1 gsel_f gsel_t gsel_s res_same res_and1 res_and2 res_and3 res_and4 res_and5 res_and6 res_false res_true res_v res_ptr res_fptr res_osl res_xsl soft aAppendZ aCap ovlI ovlJ res_fsl res_esl res_agg res_tup res_fn res_junk res_anyb aPick hk imp_left iteV dstOk guardOk astep astepE AI.ev AI.look AI.put envOf aBox cellsOf allOne allOneA oneA Value.oneCell' Value.cells newObj' aFieldAddr aLoad obj readAt thenA blockA condA retA resA tupA view hot hotC hotR depthV cAgg cInt cBool mkAgg allV aAlloc aBuild fillA writeAt aStore isAggA aField idx aIndexAddr aIndex bnd aSlice aExtract aLen aBuiltin aCall isStatic eqAgg eqTy eqC ev_add ev_sub ev_mul ev_quo ev_rem ev_and ev_or ev_xor ev_andNot ev_shl ev_shr ev_eql ev_neq ev_lss ev_leq ev_gtr ev_geq ev_agg w64 wu32 wu8 ev_not ev_neg Cod.plain RCod.plain argM finM cold coldC coldR goInt intDec boolDec aggDec Weaker heapW lowA lowC Again slDec undef aBuildSlice setRows aAppend rowsOf aMakeSlice aClear aCopy softer_self softer_nil valsOf ev_min2 ev_max2 hotR_set hotR_append take_map_set irow_cold irow_mapM irow_mapMc irow_view irow_viewc irow_hotR irow_ren irow_renc irow_low WeakT heapT thOf ren renC AgainT NextF NextT fnDec cFn rNil selfLt natLt0 natLt1 getLastMap frame0 frame1 own0 own1 argG finG tau tauI tauO tauC bareA bareC bareH irow_tau irow_tauc irow_bare irow_flat irow_bareR ownA_nil ownT_nil ownA_c ownT_c ownA_s ownT_s takeMapLen footC plainA noId noIdC cloneF frame0F frame1F insertF replaceI replaceF cellDec rCell fpDec cFp rTwo deleteF allV_oA oneA_oA res_oA RunR RunE runFT footAt hotR_cat tmodN aEqH aSliceA fxSz2 fxBy2 fxAg2 fxZe2 fxSl2 fxAr2 fxPl2 fxSz3 fxBy3 fxAg3 fxZe3 fxSl3 fxAr3 fxPl3 fxSz4 fxBy4 fxAg4 fxZe4 fxSl4 fxAr4 fxPl4 fxSz5 fxBy5 fxAg5 fxZe5 fxSl5 fxAr5 fxPl5 fxSz9 fxBy9 fxAg9 fxZe9 fxSl9 fxAr9 fxPl9 fxSz12 fxBy12 fxAg12 fxZe12 fxSl12 fxAr12 fxPl12 fxSz13 fxBy13 fxAg13 fxZe13 fxSl13 fxAr13 fxFi13x0 fxFi13x1 fxPl13 fxSz21 fxBy21 fxAg21 fxZe21 fxSl21 fxAr21 fxPl21 fxSz22 fxBy22 fxAg22 fxZe22 fxSl22 fxAr22 fxPl22 fxSz23 fxBy23 fxAg23 fxZe23 fxSl23 fxAr23 fxFi23x0 fxFi23x1 fxPl23 fxSz24 fxBy24 fxAg24 fxZe24 fxSl24 fxAr24 fxFi24x0 fxFi24x1 fxPl24 fxSz25 fxBy25 fxAg25 fxZe25 fxSl25 fxAr25 fxFi25x0 fxFi25x1 fxFi25x2 fxPl25 fxSz26 fxBy26 fxAg26 fxZe26 fxSl26 fxAr26 fxFi26x0 fxFi26x1 fxFi26x2 fxPl26 fxSz27 fxBy27 fxAg27 fxZe27 fxSl27 fxAr27 fxPl27 fxSz28 fxBy28 fxAg28 fxZe28 fxSl28 fxAr28 fxFi28x0 fxFi28x1 fxPl28 fxSz29 fxBy29 fxAg29 fxZe29 fxSl29 fxAr29 fxFi29x0 fxFi29x1 fxPl29 fxSz33 fxBy33 fxAg33 fxZe33 fxSl33 fxAr33 fxPl33 fxSz34 fxBy34 fxAg34 fxZe34 fxSl34 fxAr34 fxFi34x0 fxFi34x1 fxFi34x2 fxFi34x3 fxFi34x4 fxPl34 fxSz35 fxBy35 fxAg35 fxZe35 fxSl35 fxAr35 fxFi35x0 fxFi35x1 fxFi35x2 fxFi35x3 fxFi35x4 fxPl35 fxSz38 fxBy38 fxAg38 fxZe38 fxSl38 fxAr38 fxPl38 fxSz50 fxBy50 fxAg50 fxZe50 fxSl50 fxAr50 fxPl50 fxSz51 fxBy51 fxAg51 fxZe51 fxSl51 fxAr51 fxPl51 fxSz53 fxBy53 fxAg53 fxZe53 fxSl53 fxAr53 fxPl53 fxSz54 fxBy54 fxAg54 fxZe54 fxSl54 fxAr54 fxFi54x0 fxFi54x1 fxPl54 fxSz55 fxBy55 fxAg55 fxZe55 fxSl55 fxAr55 fxFi55x0 fxFi55x1 fxPl55 fxSz56 fxBy56 fxAg56 fxZe56 fxSl56 fxAr56 fxPl56 fxSz57 fxBy57 fxAg57 fxZe57 fxSl57 fxAr57 fxPl57 fxSz58 fxBy58 fxAg58 fxZe58 fxSl58 fxAr58 fxFi58x0 fxFi58x1 fxFi58x2 fxFi58x3 fxFi58x4 fxFi58x5 fxFi58x6 fxPl58 fxSz59 fxBy59 fxAg59 fxZe59 fxSl59 fxAr59 fxFi59x0 fxFi59x1 fxFi59x2 fxFi59x3 fxFi59x4 fxFi59x5 fxFi59x6 fxPl59 fxSz60 fxBy60 fxAg60 fxZe60 fxSl60 fxAr60 fxPl60 fxSz61 fxBy61 fxAg61 fxZe61 fxSl61 fxAr61 fxFi61x0 fxFi61x1 fxPl61 fxSz62 fxBy62 fxAg62 fxZe62 fxSl62 fxAr62 fxFi62x0 fxFi62x1 fxPl62 fxSz63 fxBy63 fxAg63 fxZe63 fxSl63 fxAr63 fxPl63 fxSz64 fxBy64 fxAg64 fxZe64 fxSl64 fxAr64 fxFi64x0 fxFi64x1 fxFi64x2 fxPl64 fxSz65 fxBy65 fxAg65 fxZe65 fxSl65 fxAr65 fxFi65x0 fxFi65x1 fxFi65x2 fxPl65 fxSz66 fxBy66 fxAg66 fxZe66 fxSl66 fxAr66 fxPl66 fxSz68 fxBy68 fxAg68 fxZe68 fxSl68 fxAr68 fxPl68 fxSz69 fxBy69 fxAg69 fxZe69 fxSl69 fxAr69 fxPl69 fxSz70 fxBy70 fxAg70 fxZe70 fxSl70 fxAr70 fxPl70 fxSz71 fxBy71 fxAg71 fxZe71 fxSl71 fxAr71 fxFi71x0 fxFi71x1 fxPl71 fxSz72 fxBy72 fxAg72 fxZe72 fxSl72 fxAr72 fxFi72x0 fxFi72x1 fxPl72 fxSz74 fxBy74 fxAg74 fxZe74 fxSl74 fxAr74 fxPl74 fxSz75 fxBy75 fxAg75 fxZe75 fxSl75 fxAr75 fxFi75x0 fxFi75x1 fxFi75x2 fxPl75 fxSz76 fxBy76 fxAg76 fxZe76 fxSl76 fxAr76 fxFi76x0 fxFi76x1 fxFi76x2 fxPl76 fxSz92 fxBy92 fxAg92 fxZe92 fxSl92 fxAr92 fxPl92 fxSz93 fxBy93 fxAg93 fxZe93 fxSl93 fxAr93 fxPl93 fxSz94 fxBy94 fxAg94 fxZe94 fxSl94 fxAr94 fxPl94 fxSz96 fxBy96 fxAg96 fxZe96 fxSl96 fxAr96 fxPl96 fxSz97 fxBy97 fxAg97 fxZe97 fxSl97 fxAr97 fxPl97 fxSz98 fxBy98 fxAg98 fxZe98 fxSl98 fxAr98 fxFi98x0 fxFi98x1 fxPl98 fxSz99 fxBy99 fxAg99 fxZe99 fxSl99 fxAr99 fxFi99x0 fxFi99x1 fxPl99 fxSz100 fxBy100 fxAg100 fxZe100 fxSl100 fxAr100 fxPl100 fxSz101 fxBy101 fxAg101 fxZe101 fxSl101 fxAr101 fxFi101x0 fxFi101x1 fxPl101 fxSz102 fxBy102 fxAg102 fxZe102 fxSl102 fxAr102 fxFi102x0 fxFi102x1 fxPl102 fxSz103 fxBy103 fxAg103 fxZe103 fxSl103 fxAr103 fxFi103x0 fxFi103x1 fxPl103 fxSz104 fxBy104 fxAg104 fxZe104 fxSl104 fxAr104 fxFi104x0 fxFi104x1 fxPl104 fxSz106 fxBy106 fxAg106 fxZe106 fxSl106 fxAr106 fxFi106x0 fxFi106x1 fxFi106x2 fxPl106 fxSz107 fxBy107 fxAg107 fxZe107 fxSl107 fxAr107 fxFi107x0 fxFi107x1 fxFi107x2 fxPl107 fxSz109 fxBy109 fxAg109 fxZe109 fxSl109 fxAr109 fxFi109x0 fxFi109x1 fxPl109 fxSz110 fxBy110 fxAg110 fxZe110 fxSl110 fxAr110 fxFi110x0 fxFi110x1 fxPl110 fxSz111 fxBy111 fxAg111 fxZe111 fxSl111 fxAr111 fxPl111 fxSz112 fxBy112 fxAg112 fxZe112 fxSl112 fxAr112 fxPl112 fxSz113 fxBy113 fxAg113 fxZe113 fxSl113 fxAr113 fxFi113x0 fxFi113x1 fxPl113 fxSz114 fxBy114 fxAg114 fxZe114 fxSl114 fxAr114 fxFi114x0 fxFi114x1 fxPl114 fxSz131 fxBy131 fxAg131 fxZe131 fxSl131 fxAr131 fxPl131 fxSz132 fxBy132 fxAg132 fxZe132 fxSl132 fxAr132 fxPl132 fxSz133 fxBy133 fxAg133 fxZe133 fxSl133 fxAr133 fxPl133 fxSz135 fxBy135 fxAg135 fxZe135 fxSl135 fxAr135 fxPl135 fxSz136 fxBy136 fxAg136 fxZe136 fxSl136 fxAr136 fxFi136x0 fxFi136x1 fxFi136x2 fxPl136 fxSz137 fxBy137 fxAg137 fxZe137 fxSl137 fxAr137 fxFi137x0 fxFi137x1 fxFi137x2 fxPl137 fxSz138 fxBy138 fxAg138 fxZe138 fxSl138 fxAr138 fxPl138 fxSz139 fxBy139 fxAg139 fxZe139 fxSl139 fxAr139 fxFi139x0 fxFi139x1 fxPl139 fxSz140 fxBy140 fxAg140 fxZe140 fxSl140 fxAr140 fxFi140x0 fxFi140x1 fxPl140 fxSz141 fxBy141 fxAg141 fxZe141 fxSl141 fxAr141 fxPl141 fxSz145 fxBy145 fxAg145 fxZe145 fxSl145 fxAr145 fxFi145x0 fxFi145x1 fxPl145 fxSz146 fxBy146 fxAg146 fxZe146 fxSl146 fxAr146 fxFi146x0 fxFi146x1 fxPl146 fxSz165 fxBy165 fxAg165 fxZe165 fxSl165 fxAr165 fxPl165 fxSz166 fxBy166 fxAg166 fxZe166 fxSl166 fxAr166 fxPl166 fxSz167 fxBy167 fxAg167 fxZe167 fxSl167 fxAr167 fxPl167 fxSz169 fxBy169 fxAg169 fxZe169 fxSl169 fxAr169 fxPl169 fxSz170 fxBy170 fxAg170 fxZe170 fxSl170 fxAr170 fxPl170 fxSz171 fxBy171 fxAg171 fxZe171 fxSl171 fxAr171 fxPl171 fxSz183 fxBy183 fxAg183 fxZe183 fxSl183 fxAr183 fxPl183 fxSz208 fxBy208 fxAg208 fxZe208 fxSl208 fxAr208 fxPl208 fxSz262 fxBy262 fxAg262 fxZe262 fxSl262 fxAr262 fxPl262 fxSz283 fxBy283 fxAg283 fxZe283 fxSl283 fxAr283 fxPl283 fxSz294 fxBy294 fxAg294 fxZe294 fxSl294 fxAr294 fxPl294 fxSz295 fxBy295 fxAg295 fxZe295 fxSl295 fxAr295 fxPl295 fxSz296 fxBy296 fxAg296 fxZe296 fxSl296 fxAr296 fxPl296 fxSz299 fxBy299 fxAg299 fxZe299 fxSl299 fxAr299 fxPl299 fxSz307 fxBy307 fxAg307 fxZe307 fxSl307 fxAr307 fxPl307 fxSz308 fxBy308 fxAg308 fxZe308 fxSl308 fxAr308 fxPl308 fxSz316 fxBy316 fxAg316 fxZe316 fxSl316 fxAr316 fxPl316 fxSz320 fxBy320 fxAg320 fxZe320 fxSl320 fxAr320 fxPl320 fxSz324 fxBy324 fxAg324 fxZe324 fxSl324 fxAr324 fxPl324 fxSz330 fxBy330 fxAg330 fxZe330 fxSl330 fxAr330 fxPl330 fxSz331 fxBy331 fxAg331 fxZe331 fxSl331 fxAr331 fxFi331x0 fxPl331 fxSz337 fxBy337 fxAg337 fxZe337 fxSl337 fxAr337 fxPl337 fxSz342 fxBy342 fxAg342 fxZe342 fxSl342 fxAr342 fxPl342 fxEq26 fxEq33 fxEq35 fxEq59 fxEq62 fxEq65 fxEq76 fxEq104 fxEq107 fxEq110 fxEq137 fxEq146 fxEq171 fxEq296 fxCv2x2 fxCv2x3 fxCv2x5 fxCv2x12 fxCv2x21 fxCv2x38 fxCv2x74 fxCv2x283 fxCv2x299 fxCv2x307 fxCv2x316 fxCv3x2 fxCv3x3 fxCv3x5 fxCv3x12 fxCv3x21 fxCv3x38 fxCv3x74 fxCv3x283 fxCv3x299 fxCv3x307 fxCv3x316 fxCv5x2 fxCv5x3 fxCv5x5 fxCv5x12 fxCv5x21 fxCv5x38 fxCv5x74 fxCv5x283 fxCv5x299 fxCv5x307 fxCv5x316 fxCv12x2 fxCv12x3 fxCv12x5 fxCv12x12 fxCv12x21 fxCv12x38 fxCv12x74 fxCv12x283 fxCv12x299 fxCv12x307 fxCv12x316 fxCv21x2 fxCv21x3 fxCv21x5 fxCv21x12 fxCv21x21 fxCv21x38 fxCv21x74 fxCv21x283 fxCv21x299 fxCv21x307 fxCv21x316 fxCv38x2 fxCv38x3 fxCv38x5 fxCv38x12 fxCv38x21 fxCv38x38 fxCv38x74 fxCv38x283 fxCv38x299 fxCv38x307 fxCv38x316 fxCv74x2 fxCv74x3 fxCv74x5 fxCv74x12 fxCv74x21 fxCv74x38 fxCv74x74 fxCv74x283 fxCv74x299 fxCv74x307 fxCv74x316 fxCv283x2 fxCv283x3 fxCv283x5 fxCv283x12 fxCv283x21 fxCv283x38 fxCv283x74 fxCv283x283 fxCv283x299 fxCv283x307 fxCv283x316 fxCv299x2 fxCv299x3 fxCv299x5 fxCv299x12 fxCv299x21 fxCv299x38 fxCv299x74 fxCv299x283 fxCv299x299 fxCv299x307 fxCv299x316 fxCv307x2 fxCv307x3 fxCv307x5 fxCv307x12 fxCv307x21 fxCv307x38 fxCv307x74 fxCv307x283 fxCv307x299 fxCv307x307 fxCv307x316 fxCv316x2 fxCv316x3 fxCv316x5 fxCv316x12 fxCv316x21 fxCv316x38 fxCv316x74 fxCv316x283 fxCv316x299 fxCv316x307 fxCv316x316 fxEb4 fxNb4 fxLt9 fxLn22 fxNe22 fxNn22 fxOe22 fxOn22 fxXe22 fxXn22 fxLn27 fxNe27 fxNn27 fxOe27 fxOn27 fxXe27 fxXn27 fxLn53 fxNe53 fxNn53 fxOe53 fxOn53 fxXe53 fxXn53 fxLn60 fxNe60 fxNn60 fxOe60 fxOn60 fxXe60 fxXn60 fxLn63 fxNe63 fxNn63 fxOe63 fxOn63 fxXe63 fxXn63 fxLn66 fxNe66 fxNn66 fxOe66 fxOn66 fxXe66 fxXn66 fxLn68 fxNe68 fxNn68 fxOe68 fxOn68 fxXe68 fxXn68 fxLn69 fxNe69 fxNn69 fxOe69 fxOn69 fxXe69 fxXn69 fxLn70 fxNe70 fxNn70 fxOe70 fxOn70 fxXe70 fxXn70 fxLn96 fxNe96 fxNn96 fxOe96 fxOn96 fxXe96 fxXn96 fxLn97 fxNe97 fxNn97 fxOe97 fxOn97 fxXe97 fxXn97 fxLn100 fxNe100 fxNn100 fxOe100 fxOn100 fxXe100 fxXn100 fxLn111 fxNe111 fxNn111 fxOe111 fxOn111 fxXe111 fxXn111 fxLn112 fxNe112 fxNn112 fxOe112 fxOn112 fxXe112 fxXn112 fxLn135 fxNe135 fxNn135 fxOe135 fxOn135 fxXe135 fxXn135 fxLn138 fxNe138 fxNn138 fxOe138 fxOn138 fxXe138 fxXn138 fxLn141 fxNe141 fxNn141 fxOe141 fxOn141 fxXe141 fxXn141 fxLn169 fxNe169 fxNn169 fxOe169 fxOn169 fxXe169 fxXn169 fxLn170 fxNe170 fxNn170 fxOe170 fxOn170 fxXe170 fxXn170 fxLn308 fxNe308 fxNn308 fxOe308 fxOn308 fxXe308 fxXn308 fxFn3 fxFm3 fxFb3 fxFi3 fxFj3 fxFn4 fxFm4 fxFb4 fxFi4 fxFj4 fxFn5 fxFm5 fxFb5 fxFi5 fxFj5 fxFn6 fxFm6 fxFb6 fxFi6 fxFj6 fxFn7 fxFm7 fxFb7 fxFi7 fxFj7 fxFn8 fxFm8 fxFb8 fxFi8 fxFj8 fxFn9 fxFm9 fxFb9 fxFi9 fxFj9 fxFn10 fxFm10 fxFb10 fxFi10 fxFj10 fxFn11 fxFm11 fxFb11 fxFi11 fxFj11 fxFn12 fxFm12 fxFb12 fxFi12 fxFj12 fxFn13 fxFm13 fxFb13 fxFi13 fxFj13 fxFn14 fxFm14 fxFb14 fxFi14 fxFj14 fxFn15 fxFm15 fxFb15 fxFi15 fxFj15 fxFn16 fxFm16 fxFb16 fxFi16 fxFj16 fxFn17 fxFm17 fxFb17 fxFi17 fxFj17 fxFn18 fxFm18 fxFb18 fxFi18 fxFj18 fxFn19 fxFm19 fxFb19 fxFi19 fxFj19 fxFn20 fxFm20 fxFb20 fxFi20 fxFj20 fxFn21 fxFm21 fxFb21 fxFi21 fxFj21 fxFn22 fxFm22 fxFb22 fxFi22 fxFj22 fxFn23 fxFm23 fxFb23 fxFi23 fxFj23 fxFn24 fxFm24 fxFb24 fxFi24 fxFj24 fxFn25 fxFm25 fxFb25 fxFi25 fxFj25 fxFn26 fxFm26 fxFb26 fxFi26 fxFj26 fxFn27 fxFm27 fxFb27 fxFi27 fxFj27 fxFn28 fxFm28 fxFb28 fxFi28 fxFj28 fxFn29 fxFm29 fxFb29 fxFi29 fxFj29 fxFn30 fxFm30 fxFb30 fxFi30 fxFj30 fxFn31 fxFm31 fxFb31 fxFi31 fxFj31 fxFn32 fxFm32 fxFb32 fxFi32 fxFj32 fxFn33 fxFm33 fxFb33 fxFi33 fxFj33 fxFn34 fxFm34 fxFb34 fxFi34 fxFj34 fxFn35 fxFm35 fxFb35 fxFi35 fxFj35 fxFn36 fxFm36 fxFb36 fxFi36 fxFj36 fxFn37 fxFm37 fxFb37 fxFi37 fxFj37 fxFn38 fxFm38 fxFb38 fxFi38 fxFj38 fxFn39 fxFm39 fxFb39 fxFi39 fxFj39 fxFn40 fxFm40 fxFb40 fxFi40 fxFj40 fxFn41 fxFm41 fxFb41 fxFi41 fxFj41 fxFn42 fxFm42 fxFb42 fxFi42 fxFj42 fxFn43 fxFm43 fxFb43 fxFi43 fxFj43 fxFn44 fxFm44 fxFb44 fxFi44 fxFj44 fxFn45 fxFm45 fxFb45 fxFi45 fxFj45 fxFn46 fxFm46 fxFb46 fxFi46 fxFj46 fxFn47 fxFm47 fxFb47 fxFi47 fxFj47 fxFn48 fxFm48 fxFb48 fxFi48 fxFj48 fxFn49 fxFm49 fxFb49 fxFi49 fxFj49 fxFn50 fxFm50 fxFb50 fxFi50 fxFj50 fxFn51 fxFm51 fxFb51 fxFi51 fxFj51 fxFn52 fxFm52 fxFb52 fxFi52 fxFj52 fxFn53 fxFm53 fxFb53 fxFi53 fxFj53 fxFn54 fxFm54 fxFb54 fxFi54 fxFj54 fxFn55 fxFm55 fxFb55 fxFi55 fxFj55 fxFn56 fxFm56 fxFb56 fxFi56 fxFj56 fxFn57 fxFm57 fxFb57 fxFi57 fxFj57 fxFn58 fxFm58 fxFb58 fxFi58 fxFj58 fxFn59 fxFm59 fxFb59 fxFi59 fxFj59 fxFn60 fxFm60 fxFb60 fxFi60 fxFj60 fxFn61 fxFm61 fxFb61 fxFi61 fxFj61 fxFn62 fxFm62 fxFb62 fxFi62 fxFj62 fxFn63 fxFm63 fxFb63 fxFi63 fxFj63 fxFn64 fxFm64 fxFb64 fxFi64 fxFj64 fxFn65 fxFm65 fxFb65 fxFi65 fxFj65 fxFn66 fxFm66 fxFb66 fxFi66 fxFj66 fxFn67 fxFm67 fxFb67 fxFi67 fxFj67 fxFn68 fxFm68 fxFb68 fxFi68 fxFj68 fxFn69 fxFm69 fxFb69 fxFi69 fxFj69 fxFn70 fxFm70 fxFb70 fxFi70 fxFj70 fxFn71 fxFm71 fxFb71 fxFi71 fxFj71 fxFn72 fxFm72 fxFb72 fxFi72 fxFj72 fxFn73 fxFm73 fxFb73 fxFi73 fxFj73 fxFn74 fxFm74 fxFb74 fxFi74 fxFj74 fxFn75 fxFm75 fxFb75 fxFi75 fxFj75 fxFn76 fxFm76 fxFb76 fxFi76 fxFj76 fxFn77 fxFm77 fxFb77 fxFi77 fxFj77 fxFn78 fxFm78 fxFb78 fxFi78 fxFj78 fxFn79 fxFm79 fxFb79 fxFi79 fxFj79 fxFn80 fxFm80 fxFb80 fxFi80 fxFj80 fxFn81 fxFm81 fxFb81 fxFi81 fxFj81 fxFn82 fxFm82 fxFb82 fxFi82 fxFj82 fxFn83 fxFm83 fxFb83 fxFi83 fxFj83 fxFn84 fxFm84 fxFb84 fxFi84 fxFj84 fxFn85 fxFm85 fxFb85 fxFi85 fxFj85 fxFn86 fxFm86 fxFb86 fxFi86 fxFj86 fxFn87 fxFm87 fxFb87 fxFi87 fxFj87 fxFn88 fxFm88 fxFb88 fxFi88 fxFj88 fxFn89 fxFm89 fxFb89 fxFi89 fxFj89 fxFn90 fxFm90 fxFb90 fxFi90 fxFj90 fxFn91 fxFm91 fxFb91 fxFi91 fxFj91 fxFn92 fxFm92 fxFb92 fxFi92 fxFj92 fxFn93 fxFm93 fxFb93 fxFi93 fxFj93 fxFn94 fxFm94 fxFb94 fxFi94 fxFj94 fxFn95 fxFm95 fxFb95 fxFi95 fxFj95 fxFn96 fxFm96 fxFb96 fxFi96 fxFj96 fxFn97 fxFm97 fxFb97 fxFi97 fxFj97 fxFn98 fxFm98 fxFb98 fxFi98 fxFj98 fxFn99 fxFm99 fxFb99 fxFi99 fxFj99 fxFn100 fxFm100 fxFb100 fxFi100 fxFj100 fxFn101 fxFm101 fxFb101 fxFi101 fxFj101 fxFn102 fxFm102 fxFb102 fxFi102 fxFj102 fxFn103 fxFm103 fxFb103 fxFi103 fxFj103 fxFn104 fxFm104 fxFb104 fxFi104 fxFj104 fxFn105 fxFm105 fxFb105 fxFi105 fxFj105 fxFn106 fxFm106 fxFb106 fxFi106 fxFj106 fxFn107 fxFm107 fxFb107 fxFi107 fxFj107 fxFn108 fxFm108 fxFb108 fxFi108 fxFj108 fxFn109 fxFm109 fxFb109 fxFi109 fxFj109 fxFn110 fxFm110 fxFb110 fxFi110 fxFj110 fxFn111 fxFm111 fxFb111 fxFi111 fxFj111 fxFn112 fxFm112 fxFb112 fxFi112 fxFj112 fxFn113 fxFm113 fxFb113 fxFi113 fxFj113 fxFn114 fxFm114 fxFb114 fxFi114 fxFj114 fxFn115 fxFm115 fxFb115 fxFi115 fxFj115 fxFn116 fxFm116 fxFb116 fxFi116 fxFj116 fxFn117 fxFm117 fxFb117 fxFi117 fxFj117 fxFn118 fxFm118 fxFb118 fxFi118 fxFj118 fxFn119 fxFm119 fxFb119 fxFi119 fxFj119 fxFn120 fxFm120 fxFb120 fxFi120 fxFj120 fxFn121 fxFm121 fxFb121 fxFi121 fxFj121 fxFn122 fxFm122 fxFb122 fxFi122 fxFj122 fxFn123 fxFm123 fxFb123 fxFi123 fxFj123 fxFn124 fxFm124 fxFb124 fxFi124 fxFj124 fxFn125 fxFm125 fxFb125 fxFi125 fxFj125 fxFn126 fxFm126 fxFb126 fxFi126 fxFj126 fxFn127 fxFm127 fxFb127 fxFi127 fxFj127 fxFn128 fxFm128 fxFb128 fxFi128 fxFj128 fxFn129 fxFm129 fxFb129 fxFi129 fxFj129 fxFn130 fxFm130 fxFb130 fxFi130 fxFj130 fxFn131 fxFm131 fxFb131 fxFi131 fxFj131 fxFn132 fxFm132 fxFb132 fxFi132 fxFj132 fxFn133 fxFm133 fxFb133 fxFi133 fxFj133 fxFn134 fxFm134 fxFb134 fxFi134 fxFj134 fxFn135 fxFm135 fxFb135 fxFi135 fxFj135 fxFn136 fxFm136 fxFb136 fxFi136 fxFj136 fxFn137 fxFm137 fxFb137 fxFi137 fxFj137 fxFn138 fxFm138 fxFb138 fxFi138 fxFj138 fxFn139 fxFm139 fxFb139 fxFi139 fxFj139 fxFn140 fxFm140 fxFb140 fxFi140 fxFj140 fxFn141 fxFm141 fxFb141 fxFi141 fxFj141 fxFn142 fxFm142 fxFb142 fxFi142 fxFj142 fxFn143 fxFm143 fxFb143 fxFi143 fxFj143 fxFn144 fxFm144 fxFb144 fxFi144 fxFj144 fxFn145 fxFm145 fxFb145 fxFi145 fxFj145 fxFn146 fxFm146 fxFb146 fxFi146 fxFj146 fxFn147 fxFm147 fxFb147 fxFi147 fxFj147 fxFn148 fxFm148 fxFb148 fxFi148 fxFj148 fxFn149 fxFm149 fxFb149 fxFi149 fxFj149 fxFn150 fxFm150 fxFb150 fxFi150 fxFj150 fxFn151 fxFm151 fxFb151 fxFi151 fxFj151 fxFn152 fxFm152 fxFb152 fxFi152 fxFj152 fxFn153 fxFm153 fxFb153 fxFi153 fxFj153 fxFn154 fxFm154 fxFb154 fxFi154 fxFj154 fxFn155 fxFm155 fxFb155 fxFi155 fxFj155 fxFn156 fxFm156 fxFn157 fxFm157 fxFb157 fxFi157 fxFj157 fxFn158 fxFm158 fxFb158 fxFi158 fxFj158 fxFn159 fxFm159 fxFb159 fxFi159 fxFj159 fxFn160 fxFm160 fxFb160 fxFi160 fxFj160 fxFn161 fxFm161 fxFn162 fxFm162 fxFb162 fxFi162 fxFj162 fxFn163 fxFm163 fxFb163 fxFi163 fxFj163 fxFn164 fxFm164 fxFb164 fxFi164 fxFj164 fxFn165 fxFm165 fxFb165 fxFi165 fxFj165 fxFn166 fxFm166 fxFb166 fxFi166 fxFj166 fxFn167 fxFm167 fxFb167 fxFi167 fxFj167 fxFn168 fxFm168 fxFb168 fxFi168 fxFj168 fxFn169 fxFm169 fxFb169 fxFi169 fxFj169 fxFn170 fxFm170 fxFb170 fxFi170 fxFj170 fxFn171 fxFm171 fxFb171 fxFi171 fxFj171 fxFn172 fxFm172 fxFb172 fxFi172 fxFj172 fxFn173 fxFm173 fxFn174 fxFm174 fxFb174 fxFi174 fxFj174 fxFn175 fxFm175 fxFb175 fxFi175 fxFj175 fxFn176 fxFm176 fxFb176 fxFi176 fxFj176 fxFn177 fxFm177 fxFb177 fxFi177 fxFj177 fxFn178 fxFm178 fxFb178 fxFi178 fxFj178 fxFn179 fxFm179 fxFb179 fxFi179 fxFj179 fxFn180 fxFm180 fxFn181 fxFm181 fxFb181 fxFi181 fxFj181 fxFn182 fxFm182 fxFb182 fxFi182 fxFj182 fxFn183 fxFm183 fxFn184 fxFm184 fxFb184 fxFi184 fxFj184 fxFn185 fxFm185 fxFb185 fxFi185 fxFj185 fxFn186 fxFm186 fxFb186 fxFi186 fxFj186 fxFn187 fxFm187 fxFb187 fxFi187 fxFj187 fxFn188 fxFm188 fxFb188 fxFi188 fxFj188 fxFn189 fxFm189 fxFb189 fxFi189 fxFj189 fxFn190 fxFm190 fxFb190 fxFi190 fxFj190 fxFn191 fxFm191 fxFn192 fxFm192 fxFb192 fxFi192 fxFj192 fxFn193 fxFm193 fxFb193 fxFi193 fxFj193 fxFn194 fxFm194 fxFb194 fxFi194 fxFj194 fxFn195 fxFm195 fxFb195 fxFi195 fxFj195 fxFn196 fxFm196 fxFb196 fxFi196 fxFj196 fxFn197 fxFm197 fxFb197 fxFi197 fxFj197 fxFn198 fxFm198 fxFb198 fxFi198 fxFj198 fxFn199 fxFm199 fxFb199 fxFi199 fxFj199 fxFn200 fxFm200 fxFb200 fxFi200 fxFj200 fxFn201 fxFm201 fxFn202 fxFm202 fxFb202 fxFi202 fxFj202 fxFn203 fxFm203 fxFb203 fxFi203 fxFj203 fxFn204 fxFm204 fxFb204 fxFi204 fxFj204 fxFn205 fxFm205 fxFb205 fxFi205 fxFj205 fxFn206 fxFm206 fxFb206 fxFi206 fxFj206 fxFn207 fxFm207 fxFb207 fxFi207 fxFj207 fxFn208 fxFm208 fxFb208 fxFi208 fxFj208 fxFn209 fxFm209 fxFb209 fxFi209 fxFj209 fxFn210 fxFm210 fxFb210 fxFi210 fxFj210 fxFn211 fxFm211 fxFb211 fxFi211 fxFj211 fxFn212 fxFm212 fxFb212 fxFi212 fxFj212 fxFn213 fxFm213 fxFb213 fxFi213 fxFj213 fxFn214 fxFm214 fxFb214 fxFi214 fxFj214 fxFn215 fxFm215 fxFb215 fxFi215 fxFj215 fxFn216 fxFm216 fxFb216 fxFi216 fxFj216 fxFn217 fxFm217 fxFb217 fxFi217 fxFj217 fxFn218 fxFm218 fxFb218 fxFi218 fxFj218 fxFn219 fxFm219 fxFb219 fxFi219 fxFj219 fxFn220 fxFm220 fxFb220 fxFi220 fxFj220 fxFn221 fxFm221 fxFb221 fxFi221 fxFj221 fxFn222 fxFm222 fxFb222 fxFi222 fxFj222 fxFn223 fxFm223 fxFb223 fxFi223 fxFj223 fxFn224 fxFm224 fxFb224 fxFi224 fxFj224 fxFn225 fxFm225 fxFb225 fxFi225 fxFj225 fxFn226 fxFm226 fxFb226 fxFi226 fxFj226 fxFn227 fxFm227 fxFb227 fxFi227 fxFj227 fxFn228 fxFm228 fxFb228 fxFi228 fxFj228 fxFn229 fxFm229 fxFb229 fxFi229 fxFj229 fxFn230 fxFm230 fxFb230 fxFi230 fxFj230 fxFn231 fxFm231 fxFb231 fxFi231 fxFj231 fxFn232 fxFm232 fxFb232 fxFi232 fxFj232 fxFn233 fxFm233 fxFb233 fxFi233 fxFj233 fxFn234 fxFm234 fxFb234 fxFi234 fxFj234
section
attribute [local simp] Pg.eta Pg.cold Pg.mapM Pg.mapMc Pg.view Pg.viewc Pg.hotR Pg.ren Pg.renc Pg.low Pg.tau Pg.tauc Pg.bare Pg.flat Pg.flat1 Pg.mapMt Pg.mapMd Pg.coldt Pg.coldd Pg.hotRt Pg.hotRd
attribute [local simp] Pp.eta Pp.cold Pp.mapM Pp.mapMc Pp.view Pp.viewc Pp.hotR Pp.ren Pp.renc Pp.low Pp.tau Pp.tauc Pp.bare Pp.flat Pp.flat1 Pp.mapMt Pp.mapMd Pp.coldt Pp.coldd Pp.hotRt Pp.hotRd
attribute [local simp] Ca.eta Ca.dec_row Ca.dec_hrow Ca.cold Ca.hcold Ca.mapM Ca.mapMc Ca.hmapM Ca.hmapMc Ca.view Ca.viewc Ca.hview Ca.hviewc Ca.hotR Ca.ren Ca.renc Ca.low Ca.hlow
theorem clPp : InlOk Try.prog 11 (cloneI 20) := by
  refine inl_soft Try.func11 rfl ?_
  intro args H r H' hr
  rcases cloneI_some hr with ⟨o, rows, rfl, hl, hc⟩ | ⟨id, st, k, kc, rows, rfl, hob, hle, hl, hc⟩ | ⟨rfl, rfl, rfl⟩
  · refine ⟨by simp [Try.ntmps11], wpA_sound noOrc_ok fxMix _ _ _ _ (by kernel_rfl) ?_⟩
    rcases hc with ⟨rfl, rfl, rfl⟩ | ⟨h0, rfl, rfl⟩
    · simp [Try.ntmps11, Try.results11, noOrc]
    · simp [Try.ntmps11, Try.results11, h0, hl, noOrc]
  · refine ⟨by simp [Try.ntmps11], wpA_sound noOrc_ok fxMix _ _ _ _ (by kernel_rfl) ?_⟩
    have hob' := obj_get hob
    have e1 : min k (rows.length - st) = k := by omega
    have e2 : st + k ≤ rows.length := hle
    have e3 : st ≤ rows.length := by omega
    rcases hc with ⟨rfl, rfl, rfl⟩ | ⟨h0, rfl, rfl⟩
    · simp [Try.ntmps11, Try.results11, noOrc, hob', e2, e3]
    · simp [Try.ntmps11, Try.results11, hl, noOrc, hob', e1, e2, h0]
  · refine ⟨by simp [Try.ntmps11], wpA_sound noOrc_ok fxMix _ _ _ _ (by kernel_rfl) ?_⟩
    simp [Try.ntmps11, Try.results11, noOrc]
theorem insPpOv : InlOk Try.prog 161 ovlI := ovl_inl (t := 27) (r := 4) Try.func161 (by kernel_rfl) (by kernel_rfl) (by kernel_rfl) (by kernel_rfl) Try.underlying27 (sz := 20) (by kernel_rfl)
theorem insPp : InlOk Try.prog 90 (insertI 20) := by
  have hC := (noOrc_ok (P := Try.prog)).withI insPpOv
  refine insert_of Try.func90 rfl (by simp [Try.ntmps90]) ?_ ?_ ?_ ?_
  · intro H vid vr h1
    refine wpA_sound hC fxMix _ _ _ _ (by kernel_rfl) ?_
    have h1' := obj_get h1
    simp [Try.ntmps90, Try.results90, noOrc, Orc.withI, h1']
  · intro H id vid rows vr h1 h2 h3 h5
    refine wpA_sound hC fxMix _ _ _ _ (by kernel_rfl) ?_
    have h1' := obj_get h1
    have h2' := obj_get h2
    have h6 : ¬ (rows.length + 1 ≤ rows.length) := by omega
    have h7 : rows.length ≤ 4294967295 := by omega
    simp [Try.ntmps90, Try.results90, noOrc, Orc.withI, h1', h2', h6, h7]
  · intro H id vid i rows vr h1 h2 h3 h4 h5 h6 h7
    refine wpA_sound hC fxMix _ _ _ _ (by kernel_rfl) ?_
    have h1' := obj_get h1
    have h2' := obj_get h2
    have w1 : IntKind.i64.wrap ((rows.length : Int) + 1) = ((rows.length + 1 : Nat) : Int) := by rw [w64 (by omega) (by omega)]; simp
    obtain ⟨k, hk⟩ : ∃ k, k = rows.length + 1 - i := ⟨_, rfl⟩
    have w2 : IntKind.i64.wrap ((rows.length : Int) + 1 - i) = (k : Int) := by rw [w64 (by omega) (by omega)]; omega
    have w3 : IntKind.i64.wrap ((i : Int) + 1) = ((i + 1 : Nat) : Int) := by rw [w64 (by omega) (by omega)]; simp
    have h8 : ¬ i = rows.length := by omega
    have g1 := (List.getElem?_eq_some_iff.1 h1').2
    have g2 := (List.getElem?_eq_some_iff.1 h2').2
    have b1 : ¬ (i : Int) = rows.length := by omega
    have b2 : ¬ (rows.length : Int) = i := by omega
    have e1 : ∀ l, (H ++ l)[vid]? = some (some (20, [vr])) := by intro l; rw [List.getElem?_append_left h5, h2']
    have e2 : ∀ l, (H ++ l)[id]? = some (some (20, rows)) := by intro l; rw [List.getElem?_append_left h4, h1']
    have d0 : ¬ vid = id := fun h => h3 h.symm
    have d1 : 0 < rows.length - i := by omega
    have d2 : min 1 (rows.length + 1 - i) = 1 := by omega
    have d3 : List.take (rows.length + 1 - i) [vr] = [vr] := List.take_of_length_le (by simp; omega)
    have d4 : rows.length - i ≤ rows.length + 1 - (i + 1) := by omega
    have d5 : min (rows.length - i) (rows.length + 1 - (i + 1)) = rows.length - i := by omega
    have d6 : i + 1 + (rows.length - i) ≤ i + (rows.length - i + 1) := by omega
    have d7 : i + 1 + (rows.length - i) ≤ rows.length + 1 := by omega
    have d8 : min (i + 1) rows.length = i + 1 := by omega
    have d9 : rows.length + 1 ≤ i + 1 + (rows.length - i) := by omega
    have f1 : ∀ X, List.take (i + 1) (List.take i rows ++ vr :: X) = List.take i rows ++ [vr] := by
      intro X
      have hl : (List.take i rows).length = i := by simp; omega
      rw [List.take_append, hl, List.take_of_length_le (by omega)]; simp
    have f2 : List.take (rows.length - i) (List.drop i rows) = List.drop i rows := List.take_of_length_le (by simp)
    have f7 : ∀ X, List.take i (List.take (i + 1) rows ++ X) = List.take i rows := by intro X; rw [List.take_append_of_le_length (by simp; omega), List.take_take]; congr 1; omega
    have f8 : ∀ X, List.drop (i + 1) (List.take (i + 1) rows ++ X) = X := by intro X; rw [List.drop_append_of_le_length (by simp; omega), List.drop_eq_nil_of_le (by simp; omega)]; rfl
    have c1 : (i : Int) ≤ rows.length + 1 := by omega
    have c2 : 0 ≤ (rows.length : Int) + 1 := by omega
    have c3 : (i : Int) + 1 ≤ rows.length + 1 := by omega
    have c4 : 0 ≤ (i : Int) + 1 := by omega
    have c5 : i + 1 ≤ rows.length + 1 := by omega
    have c6 : i + (rows.length + 1 - i) = rows.length + 1 := by omega
    have c7 : i + 1 + (rows.length + 1 - (i + 1)) = rows.length + 1 := by omega
    have a1 : i ≤ rows.length := by omega
    have a2 : i + k = rows.length + 1 := by omega
    have a3 : rows.length < rows.length + 1 := by omega
    have a4 : rows.length + 1 ≤ 4294967296 := by omega
    have a5 : i ≤ rows.length + 1 := by omega
    have a6 : min i rows.length = i := by omega
    have f3 : ∀ (z : Row), List.drop (i + 1 + (rows.length - i)) (List.take i rows ++ vr :: List.drop (i + 1) (List.take i rows ++ List.replicate k z)) = [] := by intro z; apply List.drop_eq_nil_of_le; simp; omega
    simp [Try.ntmps90, Try.results90, noOrc, Orc.withI, h1', h2', w1, w2, w3, h8, h4, h5, g1, g2, e1, e2, d0, d1, d2, d3, d4, d5, d6, d7, d8, d9, f1, f2, f3,  b1, b2, c1, c2, c3, c4, c5, c6, c7, a1, a2, a3, a4, a5, a6]
  · intro H id vid i cap rows vr jr h1 h2 h3 h4 h5 h6 h7 h8
    refine wpA_sound hC fxMix _ _ _ _ (by kernel_rfl) ?_
    have h1' := obj_get h1
    have h2' := obj_get h2
    have w1 : IntKind.i64.wrap ((rows.length : Int) + 1) = ((rows.length + 1 : Nat) : Int) := by rw [w64 (by omega) (by omega)]; simp
    have w3 : IntKind.i64.wrap ((i : Int) + 1) = ((i + 1 : Nat) : Int) := by rw [w64 (by omega) (by omega)]; simp
    have h9 : ¬ i = rows.length := by omega
    have g1 := (List.getElem?_eq_some_iff.1 h1').2
    have g2 := (List.getElem?_eq_some_iff.1 h2').2
    have b1 : ¬ (i : Int) = rows.length := by omega
    have b2 : ¬ (rows.length : Int) = i := by omega
    have e1 : ∀ l, (H ++ l)[vid]? = some (some (20, [vr])) := by intro l; rw [List.getElem?_append_left h5, h2']
    have e2 : ∀ l, (H ++ l)[id]? = some (some (20, rows ++ [jr])) := by intro l; rw [List.getElem?_append_left h4, h1']
    have d0 : ¬ vid = id := fun h => h3 h.symm
    have d1 : 0 < rows.length - i := by omega
    have d2 : min 1 (rows.length + 1 - i) = 1 := by omega
    have d3 : List.take (rows.length + 1 - i) [vr] = [vr] := List.take_of_length_le (by simp; omega)
    have d4 : rows.length - i ≤ rows.length + 1 - (i + 1) := by omega
    have d5 : min (rows.length - i) (rows.length + 1 - (i + 1)) = rows.length - i := by omega
    have d6 : i + 1 + (rows.length - i) ≤ i + (rows.length - i + 1) := by omega
    have d7 : i + 1 + (rows.length - i) ≤ rows.length + 1 := by omega
    have d8 : min (i + 1) rows.length = i + 1 := by omega
    have d9 : rows.length + 1 ≤ i + 1 + (rows.length - i) := by omega
    have f1 : ∀ X, List.take (i + 1) (List.take i rows ++ vr :: X) = List.take i rows ++ [vr] := by
      intro X
      have hl : (List.take i rows).length = i := by simp; omega
      rw [List.take_append, hl, List.take_of_length_le (by omega)]; simp
    have f2 : List.take (rows.length - i) (List.drop i rows) = List.drop i rows := List.take_of_length_le (by simp)
    have f7 : ∀ X, List.take i (List.take (i + 1) rows ++ X) = List.take i rows := by intro X; rw [List.take_append_of_le_length (by simp; omega), List.take_take]; congr 1; omega
    have f8 : ∀ X, List.drop (i + 1) (List.take (i + 1) rows ++ X) = X := by intro X; rw [List.drop_append_of_le_length (by simp; omega), List.drop_eq_nil_of_le (by simp; omega)]; rfl
    have c1 : (i : Int) ≤ rows.length + 1 := by omega
    have c2 : 0 ≤ (rows.length : Int) + 1 := by omega
    have c3 : (i : Int) + 1 ≤ rows.length + 1 := by omega
    have c4 : 0 ≤ (i : Int) + 1 := by omega
    have c5 : i + 1 ≤ rows.length + 1 := by omega
    have c6 : i + (rows.length + 1 - i) = rows.length + 1 := by omega
    have c7 : i + 1 + (rows.length + 1 - (i + 1)) = rows.length + 1 := by omega
    have a1 : i ≤ rows.length := by omega
    have a3 : ¬ cap < rows.length + 1 := by omega
    have a5 : i ≤ rows.length + 1 := by omega
    have a6 : min i rows.length = i := by omega
    have a7 : (rows.length : Int) + 1 ≤ cap := by omega
    have b3 : ¬ (cap : Int) < rows.length + 1 := by omega
    have a8 : i ≤ cap := by omega
    have f4 : List.take (rows.length - i) (List.take (rows.length + 1 - i) (List.drop i (rows ++ [jr]))) = List.drop i rows := by
      rw [List.take_take, List.drop_append_of_le_length a1, List.take_append_of_le_length (by simp; omega), List.take_of_length_le (by simp; omega)]
    have f5 : List.drop (i + 1 + (rows.length - i)) (rows ++ [jr]) = [] := List.drop_eq_nil_of_le (by simp; omega)
    have f6 : List.take (i + 1) (rows ++ [jr]) = List.take (i + 1) rows := List.take_append_of_le_length (by omega)
    simp [Try.ntmps90, Try.results90, noOrc, Orc.withI, h1', h2', w1, w3, h9, h4, h5, g1, g2, e1, e2, d0, d1, d2, d3, d4, d5, d6, d7, d8, d9, f2, f4, f5, f6, f7, f8, h3, List.getElem_set_ne,  b1, b2, c1, c2, c3, c4, c5, c6, c7, a1, a3, a5, a6, a7, a8, b3]

theorem delPp : InlOk Try.prog 92 (deleteI 20) := by
  refine delete_of (z := [.v (.int .i64 0), .v (.int .i64 0), .v (.int .i64 0), .v (.int .i64 0), .v (.int .u8 0), .v (.int .u8 0), .v (.int .u8 0), .v (.int .u8 0), .v (.int .u8 0), .v (.int .u8 0), .v (.int .u8 0), .v (.int .u8 0), .v (.int .u8 0), .v (.int .u8 0), .v (.int .u8 0), .v (.int .u8 0), .v (.int .u8 0), .v (.int .u8 0), .v (.int .u8 0), .v (.int .u8 0)]) Try.func92 rfl (by simp [Try.ntmps92]) ?_
  intro H id i rows h1 h2 h3 h4
  refine wpA_sound noOrc_ok fxMix _ _ _ _ (by kernel_rfl) ?_
  have h1' := obj_get h1
  have g1 := (List.getElem?_eq_some_iff.1 h1').2
  have c1 : (i : Int) + 1 ≤ rows.length := by omega
  have c2 : 0 ≤ (i : Int) + 1 := by omega
  have c3 : (i : Int) ≤ i + 1 := by omega
  have c4 : i ≤ rows.length := by omega
  have c5 : i + 1 ≤ rows.length := by omega
  have c6 : i + 1 + (rows.length - (i + 1)) ≤ rows.length := by omega
  have c7 : i + (rows.length - (i + 1)) ≤ rows.length := by omega
  have c8 : i + (rows.length - (i + 1)) = rows.length - 1 := by omega
  have c9 : rows.length - 1 ≤ rows.length := by omega
  have d1 : ¬ ((i : Int) = i + 1) := by omega
  have d2 : List.take (rows.length - (i + 1)) (List.drop (i + 1) rows) = List.drop (i + 1) rows := List.take_of_length_le (by simp)
  have d3 : rows.length - (rows.length - 1) = 1 := by omega
  have d4 : (rows.length - 1) + 1 = rows.length := by omega
  have d5 : ¬ rows.length = i := by omega
  have d6 : ¬ rows.length = 0 := by omega
  have d7 : rows.length ≤ 4294967296 := by omega
  have d8 : i + (rows.length - (i + 1)) ≤ 4294967296 := by omega
  have f1 : rows.length ≤ 4294967297 := by omega
  have f2 : rows.length ≤ i + (rows.length - (i + 1) + 1) := by omega
  have d9 : ∀ X : List Row, List.take (rows.length - 1) (List.take i rows ++ (List.drop (i + 1) rows ++ X)) = List.take i rows ++ List.drop (i + 1) rows := by
    intro X
    rw [← List.append_assoc, List.take_append_of_le_length (by simp; omega), List.take_of_length_le (by simp; omega)]
  have e1 : List.drop rows.length (List.take i rows ++ (List.drop (i + 1) rows ++ List.drop (rows.length - 1) rows)) = [] := List.drop_eq_nil_of_le (by simp; omega)
  have e2 : rows.length - 1 ≤ i + (rows.length - (i + 1) + 1) := by omega
  have e3 : min i rows.length = i := by omega
  have e4 : ((rows.length - 1 : Nat) : Int) ≤ rows.length := by omega
  simp [Try.ntmps92, Try.results92, noOrc, h1', h2, h3, g1, c1, c2, c3, c4, c5, c6, c7, c8, c9, d1, d2, d3, d4, d5, d6, d7, d8, d9, e1, e2, e3, e4, f1, f2]
def caV (l : List Pp) (T : Int) : AVal := .agg [.fsl true 20 (l.map Pp.row), .v (.int .i64 T)]
def caE : Except Int Ca → AVal
  | .ok c => .tup [caV c.pages c.clock, .v (.int .i64 0)]
  | .error e => .v (.tuple #[.agg #[.slice none 0 0, .int .i64 0], .int .i64 e])
theorem with_pure : PureOk Try.prog 88 (argM (cAgg rCa) fun c => argM (cInt .i64) fun i => argM (cAgg rPp) fun p => finM (if (0 ≤ i ∧ i < c.pages.length) ∧ c.pages.length ≤ 64 then some (caV (c.pages.set i.toNat p) c.clock) else none)) := by
  refine pure3 Try.func88 rfl ?_
  rintro c i p r hr
  by_cases hc : (0 ≤ i ∧ i < c.pages.length) ∧ c.pages.length ≤ 64
  case neg => rw [if_neg hc] at hr; cases hr
  rw [if_pos hc] at hr
  simp only [Option.some.injEq] at hr
  subst hr
  refine body_gen (noOrc_ok.withIF clPp clone_loc) fxMix (by kernel_rfl) (by simp [Try.ntmps88]) ?_
  intro C cP cI cN cD cF cA cR cL
  have cn0 := orcI clPp (C := C) (by rw [cN]; rfl)
  replace cI := fun g => congrFun cI g
  simp only [Orc.withP, Orc.withI, Orc.withF, Orc.withD, Orc.withA, Orc.withR, Orc.withC, noOrc] at cI
  replace cR : C.rd = fun _ => none := cR
  replace cD : C.dyn = fun _ => [] := cD
  clear cP cN cF cA
  obtain ⟨⟨h1, h2⟩, h3⟩ := hc
  obtain ⟨l, T⟩ := c
  simp only at h2 h3 ⊢
  obtain ⟨k, rfl⟩ := Int.eq_ofNat_of_zero_le h1
  have hk : k < l.length := by omega
  have hne : ¬ l = [] := by intro h; subst h; simp at hk
  have hl : l.length ≤ 4294967296 := by omega
  simp [Try.ntmps88, Try.results88, cSl, cn0, cI, cD, cR, rCa, caDec, Ca.row, rPp, Pp.row, ppDec, cloneI, hne, hl, hk, caV]
  done
end
section
attribute [local simp] Pg.eta Pg.cold Pg.mapM Pg.mapMc Pg.view Pg.viewc Pg.hotR Pg.ren Pg.renc Pg.low Pg.tau Pg.tauc Pg.bare Pg.flat Pg.flat1 Pg.mapMt Pg.mapMd Pg.coldt Pg.coldd Pg.hotRt Pg.hotRd
attribute [local simp] Pp.eta Pp.cold Pp.mapM Pp.mapMc Pp.view Pp.viewc Pp.hotR Pp.ren Pp.renc Pp.low Pp.tau Pp.tauc Pp.bare Pp.flat Pp.flat1 Pp.mapMt Pp.mapMd Pp.coldt Pp.coldd Pp.hotRt Pp.hotRd
attribute [local simp] Ca.eta Ca.dec_row Ca.dec_hrow Ca.cold Ca.hcold Ca.mapM Ca.mapMc Ca.hmapM Ca.hmapMc Ca.view Ca.viewc Ca.hview Ca.hviewc Ca.hotR Ca.ren Ca.renc Ca.low Ca.hlow
theorem put_row {a0 a1 a2 a3 : AVal} {d : Pg} {k : Nat} (hk : k < 16) (b : Int) : writeAt [a0, a1, a2, a3, .v (.int .u8 d.b0), .v (.int .u8 d.b1), .v (.int .u8 d.b2), .v (.int .u8 d.b3), .v (.int .u8 d.b4), .v (.int .u8 d.b5), .v (.int .u8 d.b6), .v (.int .u8 d.b7), .v (.int .u8 d.b8), .v (.int .u8 d.b9), .v (.int .u8 d.b10), .v (.int .u8 d.b11), .v (.int .u8 d.b12), .v (.int .u8 d.b13), .v (.int .u8 d.b14), .v (.int .u8 d.b15)] (4 + k) [.v (.int .u8 b)] = [a0, a1, a2, a3, .v (.int .u8 (putB d k b).b0), .v (.int .u8 (putB d k b).b1), .v (.int .u8 (putB d k b).b2), .v (.int .u8 (putB d k b).b3), .v (.int .u8 (putB d k b).b4), .v (.int .u8 (putB d k b).b5), .v (.int .u8 (putB d k b).b6), .v (.int .u8 (putB d k b).b7), .v (.int .u8 (putB d k b).b8), .v (.int .u8 (putB d k b).b9), .v (.int .u8 (putB d k b).b10), .v (.int .u8 (putB d k b).b11), .v (.int .u8 (putB d k b).b12), .v (.int .u8 (putB d k b).b13), .v (.int .u8 (putB d k b).b14), .v (.int .u8 (putB d k b).b15)] := by
  have h : k = 0 ∨ k = 1 ∨ k = 2 ∨ k = 3 ∨ k = 4 ∨ k = 5 ∨ k = 6 ∨ k = 7 ∨ k = 8 ∨ k = 9 ∨ k = 10 ∨ k = 11 ∨ k = 12 ∨ k = 13 ∨ k = 14 ∨ k = 15 := by omega
  rcases h with rfl | rfl | rfl | rfl | rfl | rfl | rfl | rfl | rfl | rfl | rfl | rfl | rfl | rfl | rfl | rfl <;> rfl
theorem set_pure : PureOk Try.prog 18 (argM (cAgg rCa) fun c => argM (cInt .i64) fun f => argM (cInt .i64) fun n => argM (cInt .i64) fun k => argM (cInt .u8) fun b => finM (some (caE (caSet c f n k b)))) := by
  refine pure5 Try.func18 rfl ?_
  rintro c f n k b r hr
  simp only [Option.some.injEq] at hr
  subst hr
  refine body_gen ((noOrc_ok.withP there_pure).withP with_pure) fxMix (by kernel_rfl) (by simp [Try.ntmps18]) ?_
  intro C cP cI cN cD cF cA cR cL
  have cp0 := orcP there_pure (C := C) (by rw [cP]; rfl)
  have cp1 := orcP with_pure (C := C) (by rw [cP]; rfl)
  replace cI : C.inl = fun _ => false := cI
  replace cR : C.rd = fun _ => none := cR
  replace cD : C.dyn = fun _ => [] := cD
  clear cP cN cF cA
  unfold caSet
  by_cases h0 : caThere c f n = 0
  case neg =>
    obtain ⟨l, T⟩ := c
    simp [Try.ntmps18, Try.results18, cSl, cp0, cp1, cI, cD, cR, rCa, caDec, Ca.row, rPp, Pp.row, ppDec, h0, caE]
    done
  obtain ⟨g, hr, hh⟩ := caThere_iff.1 h0
  obtain ⟨hi, hf, hn⟩ := hasG_iff.1 hh
  have hlt : lowT c f n = (lowG c.pages f n : Int) := by unfold lowT; rw [if_pos (caChk_iff.2 ⟨g, hr⟩)]
  have hl64 := g.len
  have hc1 := g.c1
  have hc2 := g.c2
  have hpa : pgAt c f n = c.pages[lowG c.pages f n] := by simp [pgAt, hi]
  have hb := badP_iff.1 (g.each _ (List.getElem_mem hi))
  rw [hpa]
  obtain ⟨l, T⟩ := c
  simp only at hi hlt hl64 hb hc1 hc2 ⊢
  generalize lowG l f n = i at hi hlt hb ⊢
  by_cases h1 : k < 0
  · simp [Try.ntmps18, Try.results18, cSl, cp0, cp1, cI, cD, cR, rCa, caDec, Ca.row, rPp, Pp.row, ppDec, h0, h1, caE]
    done
  by_cases h2 : 16 ≤ k
  · simp [Try.ntmps18, Try.results18, cSl, cp0, cp1, cI, cD, cR, rCa, caDec, Ca.row, rPp, Pp.row, ppDec, h0, h1, h2, caE]
    done
  have h12 : ¬ (k < 0 ∨ 16 ≤ k) := by omega
  rw [if_neg h12]
  by_cases h3 : T = 1073741824
  · subst h3
    simp [Try.ntmps18, Try.results18, cSl, cp0, cp1, cI, cD, cR, rCa, caDec, Ca.row, rPp, Pp.row, ppDec, h0, h1, h2, caE]
    done
  obtain ⟨k, rfl⟩ := Int.eq_ofNat_of_zero_le (show 0 ≤ k by omega)
  have hk : k < 16 := by omega
  have hk2 : ¬ 16 ≤ k := by omega
  have hk3 : (k : Int) < 16 := by omega
  have hk4 : 4 + k + 1 ≤ 20 := by omega
  have hk5 : k ≤ 15 := by omega
  have hk6 : 4 + k < 20 := by omega
  have hw : IntKind.i64.wrap (T + 1) = T + 1 := w64 (by omega) (by omega)
  by_cases h4 : l[i].dirty = 0
  · simp [Try.ntmps18, Try.results18, cSl, cp0, cp1, cI, cD, cR, rCa, caDec, Ca.row, rPp, Pp.row, ppDec, h0, h1, h2, h3, h4, hk, hk2, hk3, hk4, hk5, hk6, hlt, hi, hl64, hw, put_row hk, caE, caV, setP]
    done
  · simp [Try.ntmps18, Try.results18, cSl, cp0, cp1, cI, cD, cR, rCa, caDec, Ca.row, rPp, Pp.row, ppDec, h0, h1, h2, h3, h4, hk, hk2, hk3, hk4, hk5, hk6, hlt, hi, hl64, hw, put_row hk, caE, caV, setP]
    done
end
section
attribute [local simp] Pg.eta Pg.cold Pg.mapM Pg.mapMc Pg.view Pg.viewc Pg.hotR Pg.ren Pg.renc Pg.low Pg.tau Pg.tauc Pg.bare Pg.flat Pg.flat1 Pg.mapMt Pg.mapMd Pg.coldt Pg.coldd Pg.hotRt Pg.hotRd
attribute [local simp] Pp.eta Pp.cold Pp.mapM Pp.mapMc Pp.view Pp.viewc Pp.hotR Pp.ren Pp.renc Pp.low Pp.tau Pp.tauc Pp.bare Pp.flat Pp.flat1 Pp.mapMt Pp.mapMd Pp.coldt Pp.coldd Pp.hotRt Pp.hotRd
attribute [local simp] Ca.eta Ca.dec_row Ca.dec_hrow Ca.cold Ca.hcold Ca.mapM Ca.mapMc Ca.hmapM Ca.hmapMc Ca.view Ca.viewc Ca.hview Ca.hviewc Ca.hotR Ca.ren Ca.renc Ca.low Ca.hlow
theorem out_pure : PureOk Try.prog 21 (argM (cAgg rCa) fun c => argM (cInt .i64) fun f => argM (cInt .i64) fun n => finM (some (caE (caOut c f n)))) := by
  refine pure3 Try.func21 rfl ?_
  rintro c f n r hr
  simp only [Option.some.injEq] at hr
  subst hr
  refine body_gen ((((noOrc_ok.withP there_pure).withIF clPp clone_loc).withIF delPp delete_loc).withD (fun i => if i = 6 then [(2,8),(6,8)] else [])) fxMix (by kernel_rfl) (by simp [Try.ntmps21]) ?_
  intro C cP cI cN cD cF cA cR cL
  have cp0 := orcP there_pure (C := C) (by rw [cP]; rfl)
  have cn0 := orcI clPp (C := C) (by rw [cN]; rfl)
  have cn1 := orcI delPp (C := C) (by rw [cN]; rfl)
  replace cI := fun g => congrFun cI g
  simp only [Orc.withP, Orc.withI, Orc.withF, Orc.withD, Orc.withA, Orc.withR, Orc.withC, noOrc] at cI
  replace cR : C.rd = fun _ => none := cR
  replace cD : C.dyn = fun i => if i = 6 then [(2,8),(6,8)] else [] := cD
  replace cF := fun g => congrFun cF g
  simp only [Orc.withP, Orc.withI, Orc.withF, Orc.withD, Orc.withA, Orc.withR, Orc.withC, noOrc] at cF
  replace cA : C.alt = fun _ => [] := cA
  clear cP cN
  unfold caOut
  by_cases h0 : caThere c f n = 0
  case neg =>
    obtain ⟨l, T⟩ := c
    simp [Try.ntmps21, Try.results21, cSl, cp0, cn0, cn1, cI, cD, cR, cF, cA, rCa, caDec, Ca.row, rPp, Pp.row, ppDec, h0, caE]
    done
  obtain ⟨g, hr, hh⟩ := caThere_iff.1 h0
  obtain ⟨hi, hf, hn⟩ := hasG_iff.1 hh
  have hlt : lowT c f n = (lowG c.pages f n : Int) := by unfold lowT; rw [if_pos (caChk_iff.2 ⟨g, hr⟩)]
  have hl64 := g.len
  have hpa : pgAt c f n = c.pages[lowG c.pages f n] := by simp [pgAt, hi]
  rw [hpa]
  obtain ⟨l, T⟩ := c
  simp only at hi hlt hl64 ⊢
  generalize lowG l f n = k at hi hlt ⊢
  by_cases h1 : 0 < l[k].maps
  · simp [Try.ntmps21, Try.results21, cSl, cp0, cn0, cn1, cI, cD, cR, cF, cA, rCa, caDec, Ca.row, rPp, Pp.row, ppDec, h0, h1, hlt, hi, caE]
    done
  by_cases h2 : 0 < l[k].dirty
  · simp [Try.ntmps21, Try.results21, cSl, cp0, cn0, cn1, cI, cD, cR, cF, cA, rCa, caDec, Ca.row, rPp, Pp.row, ppDec, h0, h1, h2, hlt, hi, caE]
    done
  have hl2 : l.length ≤ 4294967296 := by omega
  have hl3 : l.length ≤ 1048576 := by omega
  have hne : ¬ l = [] := by intro h; subst h; simp at hi
  have hpos : 0 < l.length := by omega
  have hw : IntKind.i64.wrap ((k : Int) + 1) = (k : Int) + 1 := w64 (by omega) (by omega)
  have he : (List.map Pp.row l).eraseIdx k = List.map Pp.row (l.eraseIdx k) := by simp [List.eraseIdx_eq_take_drop_succ]
  have hel : (l.eraseIdx k).length = l.length - 1 := List.length_eraseIdx_of_lt hi
  have hel2 : l.length ≤ l.length - 1 + 1 := by omega
  have het : List.take (l.length - 1) (List.map Pp.row (l.eraseIdx k)) = List.map Pp.row (l.eraseIdx k) := List.take_of_length_le (by simp [hel])
  simp [Try.ntmps21, Try.results21, cSl, cp0, cn0, cn1, cI, cD, cR, cF, cA, he, hel, hel2, het, rCa, caDec, Ca.row, rPp, Pp.row, ppDec, h0, h1, h2, hlt, hi, hl2, hl3, hne, hpos, hw, caE, caV, cloneI, deleteI]
  done
theorem bring_pure : PureOk Try.prog 19 (argM (cAgg rCa) fun c => argM (cInt .i64) fun f => argM (cInt .i64) fun n => argM (cAgg rPg) fun d => finM (some (caE (caBring c f n d)))) := by
  refine pure4 Try.func19 rfl ?_
  rintro c f n d r hr
  simp only [Option.some.injEq] at hr
  subst hr
  refine body_gen (((((noOrc_ok.withP at_pure).withIF clPp clone_loc).withIF insPp insert_loc).withD (fun i => if i = 8 then [(2,8),(2,6),(1,8),(2,11),(8,11),(9,11)] else [])).withA (fun i => if i = 8 then [0,1,3,4,5,6,7,8,2,9,10,11,12,13,14] else [])) fxMix (by kernel_rfl) (by simp [Try.ntmps19]) ?_
  intro C cP cI cN cD cF cA cR cL
  have cp0 := orcP at_pure (C := C) (by rw [cP]; rfl)
  have cn0 := orcI clPp (C := C) (by rw [cN]; rfl)
  have cn1 := orcI insPp (C := C) (by rw [cN]; rfl)
  replace cI := fun g => congrFun cI g
  simp only [Orc.withP, Orc.withI, Orc.withF, Orc.withD, Orc.withA, Orc.withR, Orc.withC, noOrc] at cI
  replace cR : C.rd = fun _ => none := cR
  replace cD : C.dyn = fun i => if i = 8 then [(2,8),(2,6),(1,8),(2,11),(8,11),(9,11)] else [] := cD
  replace cF := fun g => congrFun cF g
  simp only [Orc.withP, Orc.withI, Orc.withF, Orc.withD, Orc.withA, Orc.withR, Orc.withC, noOrc] at cF
  replace cA : C.alt = fun i => if i = 8 then [0,1,3,4,5,6,7,8,2,9,10,11,12,13,14] else [] := cA
  have rg15 : List.range 15 = [0, 1, 2, 3, 4, 5, 6, 7, 8, 9, 10, 11, 12, 13, 14] := rfl
  clear cP cN
  unfold caBring
  by_cases h0 : caChk c f n = 0
  case neg =>
    obtain ⟨l, T⟩ := c
    simp [Try.ntmps19, Try.results19, cSl, cp0, cn0, cn1, cI, cD, cR, cF, cA, rg15, rCa, caDec, Ca.row, rPp, Pp.row, ppDec, rPg, Pg.row, pgDec, atE, h0, caE]
    done
  obtain ⟨g, hr⟩ := caChk_iff.1 h0
  have hl64 := g.len
  have hle := lowG_le c.pages f n
  have hck := caCheck_iff.2 g
  by_cases h1 : hasG c.pages f n = true
  · obtain ⟨l, T⟩ := c
    simp [Try.ntmps19, Try.results19, cSl, cp0, cn0, cn1, cI, cD, cR, cF, cA, rg15, rCa, caDec, Ca.row, rPp, Pp.row, ppDec, rPg, Pg.row, pgDec, atE, h0, h1, caE]
    done
  simp only [Bool.not_eq_true] at h1
  by_cases h2 : c.pages.length = 64
  · have h2' : (c.pages.length : Int) = 64 := by omega
    obtain ⟨l, T⟩ := c
    simp [Try.ntmps19, Try.results19, cSl, cp0, cn0, cn1, cI, cD, cR, cF, cA, rg15, rCa, caDec, Ca.row, rPp, Pp.row, ppDec, rPg, Pg.row, pgDec, atE, h0, h1, h2, h2', caE]
    done
  have h2' : ¬ (c.pages.length : Int) = 64 := by omega
  obtain ⟨l, T⟩ := c
  simp only at hl64 hle h2 h2' h1 ⊢
  by_cases hn : l = []
  · subst hn
    have hlo : lowG [] f n = 0 := rfl
    simp [Try.ntmps19, Try.results19, cSl, cp0, cn0, cn1, cI, cD, cR, cF, cA, rg15, rCa, caDec, Ca.row, rPp, Pp.row, ppDec, rPg, Pg.row, pgDec, atE, h0, h1, hlo, caE, caV, cloneI, insertI, insG]
    done
  have hpos : 0 < l.length := List.length_pos_iff.2 hn
  have hl2 : l.length ≤ 4294967296 := by omega
  have hl3 : l.length ≤ 1048576 := by omega
  have hh1 : l.length + 1 ≤ lowG l f n + (l.length - lowG l f n + 1) := by omega
  have hh2 : ∀ x : Row, List.take (l.length + 1) (List.take (lowG l f n) (List.map Pp.row l) ++ x :: List.drop (lowG l f n) (List.map Pp.row l)) = List.take (lowG l f n) (List.map Pp.row l) ++ x :: List.drop (lowG l f n) (List.map Pp.row l) := by
    intro x; apply List.take_of_length_le; simp; omega
  simp [Try.ntmps19, Try.results19, cSl, cp0, cn0, cn1, cI, cD, cR, cF, cA, rg15, rCa, caDec, Ca.row, rPp, Pp.row, ppDec, rPg, Pg.row, pgDec, atE, h0, h1, h2, h2', hl2, hl3, hn, hpos, hle, hh1, hh2, caE, caV, cloneI, insertI, insG]
end
section
attribute [local simp] Pg.eta Pg.cold Pg.mapM Pg.mapMc Pg.view Pg.viewc Pg.hotR Pg.ren Pg.renc Pg.low Pg.tau Pg.tauc Pg.bare Pg.flat Pg.flat1 Pg.mapMt Pg.mapMd Pg.coldt Pg.coldd Pg.hotRt Pg.hotRd
attribute [local simp] Pp.eta Pp.cold Pp.mapM Pp.mapMc Pp.view Pp.viewc Pp.hotR Pp.ren Pp.renc Pp.low Pp.tau Pp.tauc Pp.bare Pp.flat Pp.flat1 Pp.mapMt Pp.mapMd Pp.coldt Pp.coldd Pp.hotRt Pp.hotRd
attribute [local simp] Ca.eta Ca.dec_row Ca.dec_hrow Ca.cold Ca.hcold Ca.mapM Ca.mapMc Ca.hmapM Ca.hmapMc Ca.view Ca.viewc Ca.hview Ca.hviewc Ca.hotR Ca.ren Ca.renc Ca.low Ca.hlow
def ppV (p : Pp) : Value := .agg #[.int .i64 p.file, .int .i64 p.n, .int .i64 p.maps, .int .i64 p.dirty, .int .u8 p.data.b0, .int .u8 p.data.b1, .int .u8 p.data.b2, .int .u8 p.data.b3, .int .u8 p.data.b4, .int .u8 p.data.b5, .int .u8 p.data.b6, .int .u8 p.data.b7, .int .u8 p.data.b8, .int .u8 p.data.b9, .int .u8 p.data.b10, .int .u8 p.data.b11, .int .u8 p.data.b12, .int .u8 p.data.b13, .int .u8 p.data.b14, .int .u8 p.data.b15]
def backE (c : Ca) : AVal :=
  if caCheck c = 0 then
    (match caBest c.pages with
    | none => .tup [.agg [if c.pages = [] then .esl else .fsl true 20 (c.pages.map Pp.row), .v (.int .i64 c.clock)], .v (ppV noPp), .v (.bool false), .v (.int .i64 0)]
    | some i => .tup [caV (c.pages.set i (cleanP ((c.pages[i]?).getD noPp))) c.clock, .v (ppV ((c.pages[i]?).getD noPp)), .v (.bool true), .v (.int .i64 0)])
  else .v (.tuple #[.agg #[.slice none 0 0, .int .i64 0], ppV noPp, .bool false, .int .i64 (caCheck c)])
def BestInv (l : List Pp) (k : Nat) (b : Int) : Prop :=
  (b = -1 ∧ ∀ j (hj : j < l.length), j < k → ¬ 0 < l[j].dirty) ∨ (∃ (m : Nat) (hm : m < l.length), b = m ∧ m < k ∧ 0 < l[m].dirty ∧ ∀ j (hj : j < l.length), j < k → 0 < l[j].dirty → l[m].dirty ≤ l[j].dirty)
theorem BestInv.skip {l : List Pp} {k : Nat} {b : Int} (hk : k < l.length) (h : BestInv l k b) (h0 : ¬ 0 < l[k].dirty) : BestInv l (k + 1) b := by
  rcases h with ⟨h1, h2⟩ | ⟨m, hm, h1, h2, h3, h4⟩
  · refine .inl ⟨h1, fun j hj hjk => ?_⟩
    by_cases e : j = k
    · subst e; exact h0
    · exact h2 j hj (by omega)
  · refine .inr ⟨m, hm, h1, by omega, h3, fun j hj hjk hd => ?_⟩
    by_cases e : j = k
    · subst e; exact absurd hd h0
    · exact h4 j hj (by omega) hd
theorem BestInv.new {l : List Pp} {k : Nat} {b : Int} (hk : k < l.length) (h : BestInv l k b) (h0 : 0 < l[k].dirty) (hb : b < 0 ∨ ∃ (m : Nat) (hm : m < l.length), b = m ∧ l[k].dirty < l[m].dirty) : BestInv l (k + 1) k := by
  refine .inr ⟨k, hk, rfl, by omega, h0, fun j hj hjk hd => ?_⟩
  by_cases e : j = k
  · subst e; exact Int.le_refl _
  · rcases h with ⟨h1, h2⟩ | ⟨m, hm, h1, h2, h3, h4⟩
    · exact absurd hd (h2 j hj (by omega))
    · have a1 := h4 j hj (by omega) hd
      rcases hb with hb | ⟨m', hm', hb, hlt⟩
      · omega
      · have : m' = m := by omega
        subst this
        omega
theorem BestInv.keep {l : List Pp} {k m : Nat} (hk : k < l.length) (hm : m < l.length) (h : BestInv l k m) (hlt : ¬ l[k].dirty < l[m].dirty) : BestInv l (k + 1) m := by
  rcases h with ⟨h1, _⟩ | ⟨m', hm', h1, h2, h3, h4⟩
  · omega
  · have : m' = m := by omega
    subst this
    refine .inr ⟨m', hm', rfl, by omega, h3, fun j hj hjk hd => ?_⟩
    by_cases e : j = k
    · subst e; omega
    · exact h4 j hj (by omega) hd
theorem BestInv.last {l : List Pp} {b : Int} (hd : l.Pairwise DfK) (h : BestInv l l.length b) : (b = -1 ∧ caBest l = none) ∨ ∃ (m : Nat) (hm : m < l.length), b = m ∧ caBest l = some m := by
  rcases h with ⟨h1, h2⟩ | ⟨m, hm, h1, h2, h3, h4⟩
  · exact .inl ⟨h1, best_nil fun j hj => h2 j hj hj⟩
  · exact .inr ⟨m, hm, h1, best_is hd hm h3 fun j hj => h4 j hj hj⟩
theorem back_pure : PureOk Try.prog 20 (argM (cAgg rCa) fun c => finM (some (backE c))) := by
  refine pure1 Try.func20 rfl ?_
  rintro c r hr
  simp only [Option.some.injEq] at hr
  subst hr
  refine body_gen ((((noOrc_ok.withP caCheck_pure).withP with_pure).withIF clPp clone_loc).withD (fun i => if i = 12 then [(2,4)] else if i = 16 then [(4,5)] else [])) fxMix (by kernel_rfl) (by simp [Try.ntmps20]) ?_
  intro C cP cI cN cD cF cA cR cL
  have cp0 := orcP caCheck_pure (C := C) (by rw [cP]; rfl)
  have cp1 := orcP with_pure (C := C) (by rw [cP]; rfl)
  have cn0 := orcI clPp (C := C) (by rw [cN]; rfl)
  replace cI := fun g => congrFun cI g
  simp only [Orc.withP, Orc.withI, Orc.withF, Orc.withD, Orc.withA, Orc.withR, Orc.withC, noOrc] at cI
  replace cR : C.rd = fun _ => none := cR
  replace cD : C.dyn = fun i => if i = 12 then [(2,4)] else if i = 16 then [(4,5)] else [] := cD
  replace cF := fun g => congrFun cF g
  simp only [Orc.withP, Orc.withI, Orc.withF, Orc.withD, Orc.withA, Orc.withR, Orc.withC, noOrc] at cF
  replace cA : C.alt = fun _ => [] := cA
  clear cP cN
  unfold backE
  by_cases h0 : caCheck c = 0
  case neg =>
    obtain ⟨l, T⟩ := c
    simp [Try.ntmps20, Try.results20, cSl, cp0, cp1, cn0, cI, cD, cR, cF, cA, rCa, caDec, Ca.row, rPp, Pp.row, ppDec, h0, ppV, noPp, noPg]
    done
  have g := caCheck_iff.1 h0
  have hl64 := g.len
  have hdf := g.diff
  obtain ⟨l, T⟩ := c
  simp only at hl64 hdf ⊢
  simp [Try.ntmps20, Try.results20, cSl, cp0, cp1, cn0, cI, cD, cR, cF, cA, rCa, caDec, Ca.row, rPp, ppDec, h0]
  refine loop_for l.length (fun k (b : Int) => ([(1, .ptr 0 2 0 0), (2, .ptr 1 2 0 0), (3, .ptr 2 20 0 0), (7, .v (.int .i64 b)), (20, .fsl false 20 (l.map Pp.row)), (21, .v (.int .i64 l.length)), (22, .v (.int .i64 k))], [some (2, [[.fsl false 20 (l.map Pp.row), .v (.int .i64 T)]]), some (2, [[.v (.slice none 0 0), .v (.int .i64 0)]]), some (20, [noPp.row])])) (fun k b => BestInv l k b) (-1) (by omega) (.inl ⟨rfl, fun j _ h => by omega⟩) (by simp [noPp, noPg, Pp.row]) ?_ ?_
  · rintro k b hk hinv hw
    by_cases d0 : 0 < l[k].dirty
    case neg =>
      have hn := hinv.skip hk d0
      rcases hinv with ⟨rfl, h2⟩ | ⟨m, hm, rfl, h2, h3, h4⟩
      · simp [Try.ntmps20, Try.results20, cSl, cp0, cp1, cn0, cI, cD, cR, cF, cA, rCa, caDec, Ca.row, rPp, Pp.row, ppDec, noPp, noPg, hk, hw, d0]
        exact hn
      · have hm0 : ¬ (m : Int) < 0 := by omega
        simp [Try.ntmps20, Try.results20, cSl, cp0, cp1, cn0, cI, cD, cR, cF, cA, rCa, caDec, Ca.row, rPp, Pp.row, ppDec, noPp, noPg, hk, hw, d0, hm, hm0]
        exact hn
    have hnew := hinv.new hk d0
    rcases id hinv with ⟨rfl, h2⟩ | ⟨m, hm, rfl, h2, h3, h4⟩
    · have hn := hnew (.inl (by omega))
      simp [Try.ntmps20, Try.results20, cSl, cp0, cp1, cn0, cI, cD, cR, cF, cA, rCa, caDec, Ca.row, rPp, Pp.row, ppDec, noPp, noPg, hk, hw, d0]
      exact hn
    · have hm0 : ¬ (m : Int) < 0 := by omega
      by_cases hlt : l[k].dirty < l[m].dirty
      · have hn := hnew (.inr ⟨m, hm, rfl, hlt⟩)
        simp [Try.ntmps20, Try.results20, cSl, cp0, cp1, cn0, cI, cD, cR, cF, cA, rCa, caDec, Ca.row, rPp, Pp.row, ppDec, noPp, noPg, hk, hw, d0, hm, hm0, hlt]
        exact hn
      · have hn := hinv.keep hk hm hlt
        simp [Try.ntmps20, Try.results20, cSl, cp0, cp1, cn0, cI, cD, cR, cF, cA, rCa, caDec, Ca.row, rPp, Pp.row, ppDec, noPp, noPg, hk, hw, d0, hm, hm0, hlt]
        exact hn
  · rintro b hinv
    rcases hinv.last hdf with ⟨rfl, hb⟩ | ⟨m, hm, rfl, hb⟩
    · by_cases hn : l = []
      · subst hn
        simp [Try.ntmps20, Try.results20, cSl, cp0, cp1, cn0, cI, cD, cR, cF, cA, rCa, caDec, Ca.row, rPp, Pp.row, ppDec, hb, cloneI, ppV, noPp, noPg]
        done
      · have hl2 : l.length ≤ 4294967296 := by omega
        simp [Try.ntmps20, Try.results20, cSl, cp0, cp1, cn0, cI, cD, cR, cF, cA, rCa, caDec, Ca.row, rPp, Pp.row, ppDec, hb, cloneI, hn, hl2, ppV, noPp, noPg]
        done
    · have hm0 : ¬ (m : Int) < 0 := by omega
      simp [Try.ntmps20, Try.results20, cSl, cp0, cp1, cn0, cI, cD, cR, cF, cA, rCa, caDec, Ca.row, rPp, Pp.row, ppDec, hb, hm, hm0, hl64, ppV, noPp, noPg, caV, cleanP]
      done
end
end
end Go.Proofs.Ytebpjfdbjhodiaa
