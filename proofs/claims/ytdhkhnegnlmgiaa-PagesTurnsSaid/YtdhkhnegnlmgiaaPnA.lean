/- Package pages: pages, caches, their order. Pages in order: plain theory. Package pages: Check. Package pages: at, there, Get. -/
import Derived.Test.YtdhkhnegnlmgiaaGoA
import Derived.Test.YtdhkhnegnlmgiaaAiZd
namespace Go.Proofs.Ytdhkhnegnlmgiaa
open Go.AI
set_option maxHeartbeats 2000000
set_option maxRecDepth 100000
set_option linter.unusedSimpArgs false
set_option linter.unusedVariables false
attribute [local simp] wpA wpX RunA RunD runF foot footP footB idsA bare apart runL step1 gsel_f gsel_t gsel_s res_same res_and1 res_and2 res_and3 res_and4 res_and5 res_and6 res_false res_true res_v res_ptr res_fptr res_osl res_xsl soft aAppendZ aCap ovlI ovlJ res_fsl res_esl res_agg res_tup res_fn res_junk res_anyb aPick hk imp_left iteV dstOk guardOk astep astepE AI.ev AI.look AI.put envOf aBox cellsOf allOne allOneA oneA Value.oneCell' Value.cells newObj' aFieldAddr aLoad obj readAt thenA blockA condA retA resA tupA view hot hotC hotR depthV cAgg cInt cBool mkAgg allV aAlloc aBuild fillA writeAt aStore isAggA aField idx aIndexAddr aIndex bnd aSlice aExtract aLen aBuiltin aCall isStatic eqAgg eqTy eqC ev_add ev_sub ev_mul ev_quo ev_rem ev_and ev_or ev_xor ev_andNot ev_shl ev_shr ev_eql ev_neq ev_lss ev_leq ev_gtr ev_geq ev_agg w64 wu32 wu8 ev_not ev_neg Cod.plain RCod.plain argM finM cold coldC coldR goInt intDec boolDec aggDec Weaker heapW lowA lowC Again slDec undef aBuildSlice setRows aAppend rowsOf aMakeSlice aClear aCopy softer_self softer_nil valsOf ev_min2 ev_max2 hotR_set hotR_append take_map_set irow_cold irow_mapM irow_mapMc irow_view irow_viewc irow_hotR irow_ren irow_renc irow_low WeakT heapT thOf ren renC AgainT NextF NextT fnDec cFn rNil selfLt natLt0 natLt1 getLastMap frame0 frame1 own0 own1 argG finG tau tauI tauO tauC bareA bareC bareH irow_tau irow_tauc irow_bare irow_flat irow_bareR ownA_nil ownT_nil ownA_c ownT_c ownA_s ownT_s takeMapLen footC plainA noId noIdC cloneF frame0F frame1F insertF replaceI replaceF cellDec rCell fpDec cFp rTwo deleteF allV_oA oneA_oA res_oA RunR RunE runFT footAt hotR_cat tmodN fxSz2 fxBy2 fxAg2 fxZe2 fxSl2 fxAr2 fxPl2 fxSz3 fxBy3 fxAg3 fxZe3 fxSl3 fxAr3 fxPl3 fxSz4 fxBy4 fxAg4 fxZe4 fxSl4 fxAr4 fxPl4 fxSz5 fxBy5 fxAg5 fxZe5 fxSl5 fxAr5 fxPl5 fxSz9 fxBy9 fxAg9 fxZe9 fxSl9 fxAr9 fxPl9 fxSz12 fxBy12 fxAg12 fxZe12 fxSl12 fxAr12 fxPl12 fxSz13 fxBy13 fxAg13 fxZe13 fxSl13 fxAr13 fxFi13x0 fxFi13x1 fxPl13 fxSz21 fxBy21 fxAg21 fxZe21 fxSl21 fxAr21 fxPl21 fxSz22 fxBy22 fxAg22 fxZe22 fxSl22 fxAr22 fxPl22 fxSz23 fxBy23 fxAg23 fxZe23 fxSl23 fxAr23 fxFi23x0 fxFi23x1 fxPl23 fxSz24 fxBy24 fxAg24 fxZe24 fxSl24 fxAr24 fxFi24x0 fxFi24x1 fxPl24 fxSz26 fxBy26 fxAg26 fxZe26 fxSl26 fxAr26 fxPl26 fxSz28 fxBy28 fxAg28 fxZe28 fxSl28 fxAr28 fxPl28 fxSz29 fxBy29 fxAg29 fxZe29 fxSl29 fxAr29 fxFi29x0 fxFi29x1 fxFi29x2 fxFi29x3 fxFi29x4 fxPl29 fxSz30 fxBy30 fxAg30 fxZe30 fxSl30 fxAr30 fxFi30x0 fxFi30x1 fxFi30x2 fxFi30x3 fxFi30x4 fxPl30 fxSz48 fxBy48 fxAg48 fxZe48 fxSl48 fxAr48 fxPl48 fxSz49 fxBy49 fxAg49 fxZe49 fxSl49 fxAr49 fxPl49 fxSz53 fxBy53 fxAg53 fxZe53 fxSl53 fxAr53 fxFi53x0 fxFi53x1 fxFi53x2 fxFi53x3 fxPl53 fxSz54 fxBy54 fxAg54 fxZe54 fxSl54 fxAr54 fxFi54x0 fxFi54x1 fxFi54x2 fxFi54x3 fxPl54 fxSz59 fxBy59 fxAg59 fxZe59 fxSl59 fxAr59 fxPl59 fxSz63 fxBy63 fxAg63 fxZe63 fxSl63 fxAr63 fxPl63 fxSz68 fxBy68 fxAg68 fxZe68 fxSl68 fxAr68 fxPl68 fxSz75 fxBy75 fxAg75 fxZe75 fxSl75 fxAr75 fxPl75 fxSz90 fxBy90 fxAg90 fxZe90 fxSl90 fxAr90 fxFi90x0 fxFi90x1 fxFi90x2 fxPl90 fxSz91 fxBy91 fxAg91 fxZe91 fxSl91 fxAr91 fxFi91x0 fxFi91x1 fxFi91x2 fxPl91 fxSz96 fxBy96 fxAg96 fxZe96 fxSl96 fxAr96 fxPl96 fxSz108 fxBy108 fxAg108 fxZe108 fxSl108 fxAr108 fxPl108 fxSz115 fxBy115 fxAg115 fxZe115 fxSl115 fxAr115 fxPl115 fxSz117 fxBy117 fxAg117 fxZe117 fxSl117 fxAr117 fxPl117 fxSz124 fxBy124 fxAg124 fxZe124 fxSl124 fxAr124 fxPl124 fxSz128 fxBy128 fxAg128 fxZe128 fxSl128 fxAr128 fxPl128 fxSz133 fxBy133 fxAg133 fxZe133 fxSl133 fxAr133 fxPl133 fxSz140 fxBy140 fxAg140 fxZe140 fxSl140 fxAr140 fxPl140 fxSz141 fxBy141 fxAg141 fxZe141 fxSl141 fxAr141 fxFi141x0 fxPl141 fxSz147 fxBy147 fxAg147 fxZe147 fxSl147 fxAr147 fxPl147 fxSz152 fxBy152 fxAg152 fxZe152 fxSl152 fxAr152 fxPl152 fxEq28 fxEq30 fxEq54 fxEq91 fxCv2x2 fxCv2x3 fxCv2x5 fxCv2x12 fxCv2x21 fxCv2x26 fxCv2x96 fxCv2x108 fxCv2x115 fxCv2x117 fxCv2x124 fxCv3x2 fxCv3x3 fxCv3x5 fxCv3x12 fxCv3x21 fxCv3x26 fxCv3x96 fxCv3x108 fxCv3x115 fxCv3x117 fxCv3x124 fxCv5x2 fxCv5x3 fxCv5x5 fxCv5x12 fxCv5x21 fxCv5x26 fxCv5x96 fxCv5x108 fxCv5x115 fxCv5x117 fxCv5x124 fxCv12x2 fxCv12x3 fxCv12x5 fxCv12x12 fxCv12x21 fxCv12x26 fxCv12x96 fxCv12x108 fxCv12x115 fxCv12x117 fxCv12x124 fxCv21x2 fxCv21x3 fxCv21x5 fxCv21x12 fxCv21x21 fxCv21x26 fxCv21x96 fxCv21x108 fxCv21x115 fxCv21x117 fxCv21x124 fxCv26x2 fxCv26x3 fxCv26x5 fxCv26x12 fxCv26x21 fxCv26x26 fxCv26x96 fxCv26x108 fxCv26x115 fxCv26x117 fxCv26x124 fxCv96x2 fxCv96x3 fxCv96x5 fxCv96x12 fxCv96x21 fxCv96x26 fxCv96x96 fxCv96x108 fxCv96x115 fxCv96x117 fxCv96x124 fxCv108x2 fxCv108x3 fxCv108x5 fxCv108x12 fxCv108x21 fxCv108x26 fxCv108x96 fxCv108x108 fxCv108x115 fxCv108x117 fxCv108x124 fxCv115x2 fxCv115x3 fxCv115x5 fxCv115x12 fxCv115x21 fxCv115x26 fxCv115x96 fxCv115x108 fxCv115x115 fxCv115x117 fxCv115x124 fxCv117x2 fxCv117x3 fxCv117x5 fxCv117x12 fxCv117x21 fxCv117x26 fxCv117x96 fxCv117x108 fxCv117x115 fxCv117x117 fxCv117x124 fxCv124x2 fxCv124x3 fxCv124x5 fxCv124x12 fxCv124x21 fxCv124x26 fxCv124x96 fxCv124x108 fxCv124x115 fxCv124x117 fxCv124x124 fxEb4 fxNb4 fxLt9 fxLn22 fxNe22 fxNn22 fxOe22 fxOn22 fxXe22 fxXn22 fxLn48 fxNe48 fxNn48 fxOe48 fxOn48 fxXe48 fxXn48 fxLn49 fxNe49 fxNn49 fxOe49 fxOn49 fxXe49 fxXn49 fxLn59 fxNe59 fxNn59 fxOe59 fxOn59 fxXe59 fxXn59 fxLn63 fxNe63 fxNn63 fxOe63 fxOn63 fxXe63 fxXn63 fxLn75 fxNe75 fxNn75 fxOe75 fxOn75 fxXe75 fxXn75 fxFn3 fxFm3 fxFb3 fxFi3 fxFj3 fxFn4 fxFm4 fxFb4 fxFi4 fxFj4 fxFn5 fxFm5 fxFb5 fxFi5 fxFj5 fxFn6 fxFm6 fxFb6 fxFi6 fxFj6 fxFn7 fxFm7 fxFb7 fxFi7 fxFj7 fxFn8 fxFm8 fxFb8 fxFi8 fxFj8 fxFn9 fxFm9 fxFb9 fxFi9 fxFj9 fxFn10 fxFm10 fxFb10 fxFi10 fxFj10 fxFn11 fxFm11 fxFb11 fxFi11 fxFj11 fxFn12 fxFm12 fxFb12 fxFi12 fxFj12 fxFn13 fxFm13 fxFb13 fxFi13 fxFj13 fxFn14 fxFm14 fxFb14 fxFi14 fxFj14 fxFn15 fxFm15 fxFb15 fxFi15 fxFj15 fxFn16 fxFm16 fxFb16 fxFi16 fxFj16 fxFn17 fxFm17 fxFb17 fxFi17 fxFj17 fxFn18 fxFm18 fxFb18 fxFi18 fxFj18 fxFn19 fxFm19 fxFb19 fxFi19 fxFj19 fxFn20 fxFm20 fxFb20 fxFi20 fxFj20 fxFn21 fxFm21 fxFb21 fxFi21 fxFj21 fxFn22 fxFm22 fxFb22 fxFi22 fxFj22 fxFn23 fxFm23 fxFb23 fxFi23 fxFj23 fxFn24 fxFm24 fxFb24 fxFi24 fxFj24 fxFn25 fxFm25 fxFb25 fxFi25 fxFj25 fxFn26 fxFm26 fxFb26 fxFi26 fxFj26 fxFn27 fxFm27 fxFb27 fxFi27 fxFj27 fxFn28 fxFm28 fxFb28 fxFi28 fxFj28 fxFn29 fxFm29 fxFb29 fxFi29 fxFj29 fxFn30 fxFm30 fxFb30 fxFi30 fxFj30 fxFn31 fxFm31 fxFb31 fxFi31 fxFj31 fxFn32 fxFm32 fxFb32 fxFi32 fxFj32 fxFn33 fxFm33 fxFb33 fxFi33 fxFj33 fxFn34 fxFm34 fxFb34 fxFi34 fxFj34 fxFn35 fxFm35 fxFb35 fxFi35 fxFj35 fxFn36 fxFm36 fxFb36 fxFi36 fxFj36 fxFn37 fxFm37 fxFb37 fxFi37 fxFj37 fxFn38 fxFm38 fxFb38 fxFi38 fxFj38 fxFn39 fxFm39 fxFb39 fxFi39 fxFj39 fxFn40 fxFm40 fxFb40 fxFi40 fxFj40 fxFn41 fxFm41 fxFb41 fxFi41 fxFj41 fxFn42 fxFm42 fxFb42 fxFi42 fxFj42 fxFn43 fxFm43 fxFb43 fxFi43 fxFj43 fxFn44 fxFm44 fxFb44 fxFi44 fxFj44 fxFn45 fxFm45 fxFb45 fxFi45 fxFj45 fxFn46 fxFm46 fxFb46 fxFi46 fxFj46 fxFn47 fxFm47 fxFb47 fxFi47 fxFj47 fxFn48 fxFm48 fxFb48 fxFi48 fxFj48 fxFn49 fxFm49 fxFb49 fxFi49 fxFj49 fxFn50 fxFm50 fxFb50 fxFi50 fxFj50 fxFn51 fxFm51 fxFb51 fxFi51 fxFj51 fxFn52 fxFm52 fxFb52 fxFi52 fxFj52 fxFn53 fxFm53 fxFb53 fxFi53 fxFj53 fxFn54 fxFm54 fxFb54 fxFi54 fxFj54 fxFn55 fxFm55 fxFb55 fxFi55 fxFj55 fxFn56 fxFm56 fxFb56 fxFi56 fxFj56 fxFn57 fxFm57 fxFb57 fxFi57 fxFj57 fxFn58 fxFm58 fxFb58 fxFi58 fxFj58 fxFn59 fxFm59 fxFb59 fxFi59 fxFj59 fxFn60 fxFm60 fxFn61 fxFm61 fxFb61 fxFi61 fxFj61 fxFn62 fxFm62 fxFb62 fxFi62 fxFj62 fxFn63 fxFm63 fxFb63 fxFi63 fxFj63 fxFn64 fxFm64 fxFb64 fxFi64 fxFj64 fxFn65 fxFm65 fxFb65 fxFi65 fxFj65 fxFn66 fxFm66 fxFb66 fxFi66 fxFj66 fxFn67 fxFm67 fxFb67 fxFi67 fxFj67 fxFn68 fxFm68 fxFb68 fxFi68 fxFj68 fxFn69 fxFm69 fxFb69 fxFi69 fxFj69 fxFn70 fxFm70 fxFb70 fxFi70 fxFj70 fxFn71 fxFm71 fxFb71 fxFi71 fxFj71 fxFn72 fxFm72 fxFb72 fxFi72 fxFj72 fxFn73 fxFm73 fxFb73 fxFi73 fxFj73 fxFn74 fxFm74 fxFb74 fxFi74 fxFj74 fxFn75 fxFm75 fxFb75 fxFi75 fxFj75 fxFn76 fxFm76 fxFb76 fxFi76 fxFj76 fxFn77 fxFm77 fxFb77 fxFi77 fxFj77 fxFn78 fxFm78 fxFb78 fxFi78 fxFj78 fxFn79 fxFm79 fxFb79 fxFi79 fxFj79 fxFn80 fxFm80 fxFb80 fxFi80 fxFj80 fxFn81 fxFm81 fxFb81 fxFi81 fxFj81 fxFn82 fxFm82 fxFb82 fxFi82 fxFj82 fxFn83 fxFm83 fxFb83 fxFi83 fxFj83 fxFn84 fxFm84 fxFb84 fxFi84 fxFj84 fxFn85 fxFm85 fxFb85 fxFi85 fxFj85 fxFn86 fxFm86 fxFb86 fxFi86 fxFj86 fxFn87 fxFm87 fxFb87 fxFi87 fxFj87 fxFn88 fxFm88 fxFb88 fxFi88 fxFj88 fxFn89 fxFm89 fxFb89 fxFi89 fxFj89 fxFn90 fxFm90 fxFb90 fxFi90 fxFj90 fxFn91 fxFm91 fxFb91 fxFi91 fxFj91 fxFn92 fxFm92 fxFb92 fxFi92 fxFj92 fxFn93 fxFm93 fxFb93 fxFi93 fxFj93 fxFn94 fxFm94 fxFb94 fxFi94 fxFj94 fxFn95 fxFm95 fxFb95 fxFi95 fxFj95 fxFn96 fxFm96 fxFb96 fxFi96 fxFj96 fxFn97 fxFm97 fxFb97 fxFi97 fxFj97 fxFn98 fxFm98 fxFb98 fxFi98 fxFj98 fxFn99 fxFm99 fxFb99 fxFi99 fxFj99 fxFn100 fxFm100 fxFb100 fxFi100 fxFj100 fxFn101 fxFm101 fxFb101 fxFi101 fxFj101
structure Pg where
  b0 : Int
  b1 : Int
  b2 : Int
  b3 : Int
  b4 : Int
  b5 : Int
  b6 : Int
  b7 : Int
  b8 : Int
  b9 : Int
  b10 : Int
  b11 : Int
  b12 : Int
  b13 : Int
  b14 : Int
  b15 : Int
  deriving DecidableEq
def pgDec : Row → Option Pg
  | [.v (.int .u8 x0), .v (.int .u8 x1), .v (.int .u8 x2), .v (.int .u8 x3), .v (.int .u8 x4), .v (.int .u8 x5), .v (.int .u8 x6), .v (.int .u8 x7), .v (.int .u8 x8), .v (.int .u8 x9), .v (.int .u8 x10), .v (.int .u8 x11), .v (.int .u8 x12), .v (.int .u8 x13), .v (.int .u8 x14), .v (.int .u8 x15)] => some ⟨x0, x1, x2, x3, x4, x5, x6, x7, x8, x9, x10, x11, x12, x13, x14, x15⟩
  | _ => none
def Pg.row (e : Pg) : Row := [.v (.int .u8 e.b0), .v (.int .u8 e.b1), .v (.int .u8 e.b2), .v (.int .u8 e.b3), .v (.int .u8 e.b4), .v (.int .u8 e.b5), .v (.int .u8 e.b6), .v (.int .u8 e.b7), .v (.int .u8 e.b8), .v (.int .u8 e.b9), .v (.int .u8 e.b10), .v (.int .u8 e.b11), .v (.int .u8 e.b12), .v (.int .u8 e.b13), .v (.int .u8 e.b14), .v (.int .u8 e.b15)]
def rPg : RCod Pg := RCod.plain 16 Pg.row pgDec
  (fun e => rfl) (fun _ => rfl) (fun r e h => by
    unfold pgDec at h
    split at h
    · simp at h; subst h; rfl
    · cases h)
def Pg.val (e : Pg) : Value := .agg #[.int .u8 e.b0, .int .u8 e.b1, .int .u8 e.b2, .int .u8 e.b3, .int .u8 e.b4, .int .u8 e.b5, .int .u8 e.b6, .int .u8 e.b7, .int .u8 e.b8, .int .u8 e.b9, .int .u8 e.b10, .int .u8 e.b11, .int .u8 e.b12, .int .u8 e.b13, .int .u8 e.b14, .int .u8 e.b15]
theorem Pg.eta (e : Pg) : Pg.mk e.b0 e.b1 e.b2 e.b3 e.b4 e.b5 e.b6 e.b7 e.b8 e.b9 e.b10 e.b11 e.b12 e.b13 e.b14 e.b15 = e := rfl
attribute [local simp] Pg.eta
theorem Pg.cold (l : List Pg) : coldR (l.map Pg.row) = l.map Pg.row := by
  induction l with
  | nil => simp [coldR]
  | cons e l ih => simp [coldR, coldC, AI.cold, ih, Pg.row]
theorem Pg.mapM (l : List Pg) : (l.map Pg.row).mapM pgDec = some l := mapM_dec rPg l
theorem Pg.mapMc (l : List Pg) : l.mapM (pgDec ∘ Pg.row) = some l := mapM_dec' rPg l
theorem Pg.view (H : Heap) (n : Nat) (e : Pg) : List.map (AI.view H n) e.row = e.row := by cases n <;> simp [Pg.row, AI.view]
theorem Pg.viewc (H : Heap) (n : Nat) : List.map (AI.view H n) ∘ Pg.row = Pg.row := by funext e; exact Pg.view H n e
theorem Pg.hotR (l : List Pg) : AI.hotR (l.map Pg.row) = true := by
  induction l with
  | nil => simp [AI.hotR]
  | cons e l ih => simp [AI.hotR, hotC, hot, ih, Pg.row]
theorem Pg.ren (n : Nat) (th : List Nat) (e : Pg) : List.map (AI.ren n th) e.row = e.row := by simp [Pg.row, AI.ren]
theorem Pg.renc (n : Nat) (th : List Nat) : List.map (AI.ren n th) ∘ Pg.row = Pg.row := by funext e; exact Pg.ren n th e
theorem Pg.low (n : Nat) (e : Pg) : e.row.all (lowA n) = true := by simp [Pg.row, lowA]
theorem Pg.tau (fp : List Nat) (n : Nat) (e : Pg) : List.map (AI.tau fp n) e.row = e.row := by simp [Pg.row, AI.tau]
theorem Pg.tauc (fp : List Nat) (n : Nat) : List.map (AI.tau fp n) ∘ Pg.row = Pg.row := by funext e; exact Pg.tau fp n e
theorem Pg.bare (e : Pg) : e.row.all bareA = true := by simp [Pg.row, bareA]
theorem Pg.flat (l : List Pg) : flat0 (l.map Pg.row) = true := by simp [flat0, Pg.low]
theorem Pg.flat1 (e : Pg) : flat0 [e.row] = true := by simp [flat0, Pg.low]
theorem Pg.exact : Exact rPg := by
  intro r e h
  simp only [rPg, RCod.plain] at h ⊢
  unfold pgDec at h
  split at h
  · simp at h; subst h; rfl
  · cases h
theorem Pg.mapMt (k : Nat) (l : List Pg) : (List.take k (l.map Pg.row)).mapM pgDec = some (l.take k) := by rw [← List.map_take]; exact mapM_dec rPg _
theorem Pg.mapMd (k : Nat) (l : List Pg) : (List.drop k (l.map Pg.row)).mapM pgDec = some (l.drop k) := by rw [← List.map_drop]; exact mapM_dec rPg _
theorem Pg.coldt (k : Nat) (l : List Pg) : coldR (List.take k (l.map Pg.row)) = List.take k (l.map Pg.row) := by rw [← List.map_take]; exact Pg.cold _
theorem Pg.coldd (k : Nat) (l : List Pg) : coldR (List.drop k (l.map Pg.row)) = List.drop k (l.map Pg.row) := by rw [← List.map_drop]; exact Pg.cold _
theorem Pg.hotRt (k : Nat) (l : List Pg) : AI.hotR (List.take k (l.map Pg.row)) = true := by rw [← List.map_take]; exact Pg.hotR _
theorem Pg.hotRd (k : Nat) (l : List Pg) : AI.hotR (List.drop k (l.map Pg.row)) = true := by rw [← List.map_drop]; exact Pg.hotR _
attribute [local simp] Pg.hotRt Pg.hotRd
attribute [local simp] Pg.tau Pg.tauc Pg.bare Pg.flat Pg.flat1 Pg.mapMt Pg.mapMd Pg.coldt Pg.coldd
attribute [local simp] Pg.cold Pg.mapM Pg.mapMc Pg.view Pg.viewc Pg.hotR Pg.ren Pg.renc Pg.low
structure Pp where
  file : Int
  n : Int
  maps : Int
  dirty : Int
  data : Pg
  deriving DecidableEq
def ppDec : Row → Option Pp
  | [.v (.int .i64 x0), .v (.int .i64 x1), .v (.int .i64 x2), .v (.int .i64 x3), .v (.int .u8 x4), .v (.int .u8 x5), .v (.int .u8 x6), .v (.int .u8 x7), .v (.int .u8 x8), .v (.int .u8 x9), .v (.int .u8 x10), .v (.int .u8 x11), .v (.int .u8 x12), .v (.int .u8 x13), .v (.int .u8 x14), .v (.int .u8 x15), .v (.int .u8 x16), .v (.int .u8 x17), .v (.int .u8 x18), .v (.int .u8 x19)] => some ⟨x0, x1, x2, x3, ⟨x4, x5, x6, x7, x8, x9, x10, x11, x12, x13, x14, x15, x16, x17, x18, x19⟩⟩
  | _ => none
def Pp.row (e : Pp) : Row := [.v (.int .i64 e.file), .v (.int .i64 e.n), .v (.int .i64 e.maps), .v (.int .i64 e.dirty), .v (.int .u8 e.data.b0), .v (.int .u8 e.data.b1), .v (.int .u8 e.data.b2), .v (.int .u8 e.data.b3), .v (.int .u8 e.data.b4), .v (.int .u8 e.data.b5), .v (.int .u8 e.data.b6), .v (.int .u8 e.data.b7), .v (.int .u8 e.data.b8), .v (.int .u8 e.data.b9), .v (.int .u8 e.data.b10), .v (.int .u8 e.data.b11), .v (.int .u8 e.data.b12), .v (.int .u8 e.data.b13), .v (.int .u8 e.data.b14), .v (.int .u8 e.data.b15)]
def rPp : RCod Pp := RCod.plain 20 Pp.row ppDec
  (fun e => rfl) (fun _ => rfl) (fun r e h => by
    unfold ppDec at h
    split at h
    · simp at h; subst h; rfl
    · cases h)
def Pp.val (e : Pp) : Value := .agg #[.int .i64 e.file, .int .i64 e.n, .int .i64 e.maps, .int .i64 e.dirty, .int .u8 e.data.b0, .int .u8 e.data.b1, .int .u8 e.data.b2, .int .u8 e.data.b3, .int .u8 e.data.b4, .int .u8 e.data.b5, .int .u8 e.data.b6, .int .u8 e.data.b7, .int .u8 e.data.b8, .int .u8 e.data.b9, .int .u8 e.data.b10, .int .u8 e.data.b11, .int .u8 e.data.b12, .int .u8 e.data.b13, .int .u8 e.data.b14, .int .u8 e.data.b15]
theorem Pp.eta (e : Pp) : Pp.mk e.file e.n e.maps e.dirty e.data = e := rfl
attribute [local simp] Pp.eta
theorem Pp.cold (l : List Pp) : coldR (l.map Pp.row) = l.map Pp.row := by
  induction l with
  | nil => simp [coldR]
  | cons e l ih => simp [coldR, coldC, AI.cold, ih, Pp.row]
theorem Pp.mapM (l : List Pp) : (l.map Pp.row).mapM ppDec = some l := mapM_dec rPp l
theorem Pp.mapMc (l : List Pp) : l.mapM (ppDec ∘ Pp.row) = some l := mapM_dec' rPp l
theorem Pp.view (H : Heap) (n : Nat) (e : Pp) : List.map (AI.view H n) e.row = e.row := by cases n <;> simp [Pp.row, AI.view]
theorem Pp.viewc (H : Heap) (n : Nat) : List.map (AI.view H n) ∘ Pp.row = Pp.row := by funext e; exact Pp.view H n e
theorem Pp.hotR (l : List Pp) : AI.hotR (l.map Pp.row) = true := by
  induction l with
  | nil => simp [AI.hotR]
  | cons e l ih => simp [AI.hotR, hotC, hot, ih, Pp.row]
theorem Pp.ren (n : Nat) (th : List Nat) (e : Pp) : List.map (AI.ren n th) e.row = e.row := by simp [Pp.row, AI.ren]
theorem Pp.renc (n : Nat) (th : List Nat) : List.map (AI.ren n th) ∘ Pp.row = Pp.row := by funext e; exact Pp.ren n th e
theorem Pp.low (n : Nat) (e : Pp) : e.row.all (lowA n) = true := by simp [Pp.row, lowA]
theorem Pp.tau (fp : List Nat) (n : Nat) (e : Pp) : List.map (AI.tau fp n) e.row = e.row := by simp [Pp.row, AI.tau]
theorem Pp.tauc (fp : List Nat) (n : Nat) : List.map (AI.tau fp n) ∘ Pp.row = Pp.row := by funext e; exact Pp.tau fp n e
theorem Pp.bare (e : Pp) : e.row.all bareA = true := by simp [Pp.row, bareA]
theorem Pp.flat (l : List Pp) : flat0 (l.map Pp.row) = true := by simp [flat0, Pp.low]
theorem Pp.flat1 (e : Pp) : flat0 [e.row] = true := by simp [flat0, Pp.low]
theorem Pp.exact : Exact rPp := by
  intro r e h
  simp only [rPp, RCod.plain] at h ⊢
  unfold ppDec at h
  split at h
  · simp at h; subst h; rfl
  · cases h
theorem Pp.mapMt (k : Nat) (l : List Pp) : (List.take k (l.map Pp.row)).mapM ppDec = some (l.take k) := by rw [← List.map_take]; exact mapM_dec rPp _
theorem Pp.mapMd (k : Nat) (l : List Pp) : (List.drop k (l.map Pp.row)).mapM ppDec = some (l.drop k) := by rw [← List.map_drop]; exact mapM_dec rPp _
theorem Pp.coldt (k : Nat) (l : List Pp) : coldR (List.take k (l.map Pp.row)) = List.take k (l.map Pp.row) := by rw [← List.map_take]; exact Pp.cold _
theorem Pp.coldd (k : Nat) (l : List Pp) : coldR (List.drop k (l.map Pp.row)) = List.drop k (l.map Pp.row) := by rw [← List.map_drop]; exact Pp.cold _
theorem Pp.hotRt (k : Nat) (l : List Pp) : AI.hotR (List.take k (l.map Pp.row)) = true := by rw [← List.map_take]; exact Pp.hotR _
theorem Pp.hotRd (k : Nat) (l : List Pp) : AI.hotR (List.drop k (l.map Pp.row)) = true := by rw [← List.map_drop]; exact Pp.hotR _
attribute [local simp] Pp.hotRt Pp.hotRd
attribute [local simp] Pp.tau Pp.tauc Pp.bare Pp.flat Pp.flat1 Pp.mapMt Pp.mapMd Pp.coldt Pp.coldd
attribute [local simp] Pp.cold Pp.mapM Pp.mapMc Pp.view Pp.viewc Pp.hotR Pp.ren Pp.renc Pp.low
structure Ca where
  pages : List Pp
  clock : Int
  deriving DecidableEq
def caDec : Row → Option Ca
  | [a0, .v (.int .i64 x1)] => match slDec rPp a0 with | some x0 => some ⟨x0, x1⟩ | _ => none
  | _ => none
def Ca.row (e : Ca) : Row := [.fsl false 20 (e.pages.map Pp.row), .v (.int .i64 e.clock)]
def Ca.hrow (e : Ca) : Row := [.fsl true 20 (e.pages.map Pp.row), .v (.int .i64 e.clock)]
theorem Ca.eta (e : Ca) : Ca.mk e.pages e.clock = e := rfl
theorem Ca.dec_row (e : Ca) : caDec e.row = some e := by
  have h0 := (cSl rPp).de e.pages
  simp only [cSl] at h0
  simp only [caDec, Ca.row]
  erw [h0]
theorem Ca.dec_hrow (e : Ca) : caDec e.hrow = some e := Ca.dec_row e
def rCa : RCod Ca where
  sz := 2
  enc := Ca.row
  dec := caDec
  de := Ca.dec_row
  len _ := rfl
  ok := by
    intro r e h β ok w n x hok hr
    unfold caDec at h
    split at h
    · split at h
      · rename_i h0
        simp at h
        subst h
        refine ⟨rfl, fun j c hj => ?_⟩
        match j, hj with
        | 0, hj => simp [Ca.row] at hj; subst hj; exact (cSl rPp).ok h0 hok (hr 0 _ rfl)
        | 1, hj => simp [Ca.row] at hj; subst hj; exact hr 1 _ rfl
        | j + 2, hj => simp [Ca.row] at hj
      · cases h
    · cases h
theorem Ca.cold (l : List Ca) : coldR (l.map Ca.row) = l.map Ca.row := by
  induction l with
  | nil => simp [coldR]
  | cons e l ih => simp [coldR, coldC, AI.cold, ih, Ca.row, Pp.cold, irow_cold]
theorem Ca.hcold (l : List Ca) : coldR (l.map Ca.hrow) = l.map Ca.row := by
  induction l with
  | nil => simp [coldR]
  | cons e l ih => simp [coldR, coldC, AI.cold, ih, Ca.row, Ca.hrow, Pp.cold, irow_cold]
theorem Ca.mapM (l : List Ca) : (l.map Ca.row).mapM caDec = some l := mapM_dec rCa l
theorem Ca.mapMc (l : List Ca) : l.mapM (caDec ∘ Ca.row) = some l := mapM_dec' rCa l
theorem Ca.hmapM (l : List Ca) : (l.map Ca.hrow).mapM caDec = some l := by
  rw [List.mapM_map]
  have : caDec ∘ Ca.hrow = caDec ∘ Ca.row := by funext e; simp [Function.comp, Ca.dec_row, Ca.dec_hrow]
  rw [this]; exact Ca.mapMc l
theorem Ca.hmapMc (l : List Ca) : l.mapM (caDec ∘ Ca.hrow) = some l := by
  have := Ca.hmapM l
  rwa [List.mapM_map] at this
theorem Ca.view (H : Heap) (n : Nat) (e : Ca) : List.map (AI.view H n) e.row = e.row := by cases n <;> simp [Ca.row, AI.view]
theorem Ca.viewc (H : Heap) (n : Nat) : List.map (AI.view H n) ∘ Ca.row = Ca.row := by funext e; exact Ca.view H n e
theorem Ca.hview (H : Heap) (n : Nat) (e : Ca) : List.map (AI.view H n) e.hrow = e.hrow := by cases n <;> simp [Ca.hrow, AI.view]
theorem Ca.hviewc (H : Heap) (n : Nat) : List.map (AI.view H n) ∘ Ca.hrow = Ca.hrow := by funext e; exact Ca.hview H n e
theorem Ca.hotR (l : List Ca) : AI.hotR (l.map Ca.hrow) = true := by
  induction l with
  | nil => simp [AI.hotR]
  | cons e l ih => simp [AI.hotR, hotC, hot, ih, Ca.hrow, Pp.hotR, irow_hotR]
theorem Ca.ren (n : Nat) (th : List Nat) (e : Ca) : List.map (AI.ren n th) e.row = e.row := by simp [Ca.row, AI.ren]
theorem Ca.renc (n : Nat) (th : List Nat) : List.map (AI.ren n th) ∘ Ca.row = Ca.row := by funext e; exact Ca.ren n th e
theorem Ca.low (n : Nat) (e : Ca) : e.row.all (lowA n) = true := by simp [Ca.row, lowA]
theorem Ca.hlow (n : Nat) (e : Ca) : e.hrow.all (lowA n) = true := by simp [Ca.hrow, lowA]
attribute [local simp] Ca.hlow Ca.eta Ca.dec_row Ca.dec_hrow Ca.cold Ca.hcold Ca.mapM Ca.mapMc Ca.hmapM Ca.hmapMc Ca.view Ca.viewc Ca.hview Ca.hviewc Ca.hotR Ca.ren Ca.renc Ca.low

def noPg : Pg := ⟨0, 0, 0, 0, 0, 0, 0, 0, 0, 0, 0, 0, 0, 0, 0, 0⟩
def rightP (f n : Int) : Bool := decide (1 ≤ f ∧ f ≤ 32 ∧ 0 ≤ n ∧ n < 32)
theorem right_pure : PureOk Try.prog 34 (argM (cInt .i64) fun f => argM (cInt .i64) fun n => finM (some (.v (.bool (rightP f n))))) := by
  refine pure2 Try.func34 rfl ?_
  rintro f n r hr
  simp only [Option.some.injEq] at hr
  subst hr
  refine body_gen noOrc_ok fxMix (by kernel_rfl) (by simp [Try.ntmps34]) ?_
  intro C cP cI cN cD cF cA
  replace cI : C.inl = fun _ => false := cI
  replace cD : C.dyn = fun _ => [] := cD
  clear cP cN cF cA
  unfold rightP
  by_cases h1 : 1 ≤ f <;> by_cases h2 : f ≤ 32 <;> by_cases h3 : 0 ≤ n <;> by_cases h4 : n < 32 <;> simp [Try.ntmps34, Try.results34, cSl, cI, cD, h1, h2, h3, h4]
theorem nan_pure : PureOk Try.prog 67 (argM (cInt .i64) fun x => finM (some (.v (.bool false)))) := by
  refine pure1 Try.func67 rfl ?_
  rintro x r hr
  simp only [Option.some.injEq] at hr
  subst hr
  refine body_gen noOrc_ok fxMix (by kernel_rfl) (by simp [Try.ntmps67]) ?_
  intro C cP cI cN cD cF cA
  replace cI : C.inl = fun _ => false := cI
  replace cD : C.dyn = fun _ => [] := cD
  clear cP cN cF cA
  simp [Try.ntmps67, Try.results67, cSl, cI, cD]
def cmpI (x y : Int) : Int := if x < y then -1 else if y < x then 1 else 0
theorem cmp_pure : PureOk Try.prog 52 (argM (cInt .i64) fun x => argM (cInt .i64) fun y => finM (some (.v (.int .i64 (cmpI x y))))) := by
  refine pure2 Try.func52 rfl ?_
  rintro x y r hr
  simp only [Option.some.injEq] at hr
  subst hr
  refine body_gen (noOrc_ok.withP nan_pure) fxMix (by kernel_rfl) (by simp [Try.ntmps52]) ?_
  intro C cP cI cN cD cF cA
  have cp0 := orcP nan_pure (C := C) (by rw [cP]; rfl)
  replace cI : C.inl = fun _ => false := cI
  replace cD : C.dyn = fun _ => [] := cD
  clear cP cN cF cA
  unfold cmpI
  by_cases h1 : x < y
  · simp [Try.ntmps52, Try.results52, cSl, cp0, cI, cD, h1]
  · by_cases h2 : y < x
    · simp [Try.ntmps52, Try.results52, cSl, cp0, cI, cD, h1, h2]
    · simp [Try.ntmps52, Try.results52, cSl, cp0, cI, cD, h1, h2]
def orI : List Int → Int
  | [] => 0
  | x :: r => if x = 0 then orI r else x
theorem or_pure : PureOk Try.prog 57 (argM (cSl (rI .i64)) fun l => finM (if l.length ≤ 4294967296 then some (.v (.int .i64 (orI l))) else none)) := by
  refine pure1 Try.func57 rfl ?_
  rintro l r hr
  by_cases hc : l.length ≤ 4294967296
  case neg => rw [if_neg hc] at hr; cases hr
  rw [if_pos hc] at hr
  simp only [Option.some.injEq] at hr
  subst hr
  refine body_gen noOrc_ok fxMix (by kernel_rfl) (by simp [Try.ntmps57]) ?_
  intro C cP cI cN cD cF cA
  replace cI : C.inl = fun _ => false := cI
  replace cD : C.dyn = fun _ => [] := cD
  clear cP cN cF cA
  simp [Try.ntmps57, Try.results57, cSl, cI, cD, rI]
  refine loop_for l.length (fun k (_ : Unit) => ([(3, .v (.int .i64 0)), (6, .fsl false 1 (l.map (irow .i64))), (7, .v (.int .i64 l.length)), (8, .v (.int .i64 k))], [])) (fun k _ => orI (l.drop k) = orI l) () hc (by simp) (by simp) ?_ ?_
  · intro k _ hk hall hw
    rw [List.drop_eq_getElem_cons hk, orI] at hall
    by_cases q : l[k] = 0
    · rw [if_pos q] at hall
      simp [Try.ntmps57, Try.results57, cSl, cI, cD, hk, irow, hw, q]
      exact hall
    · rw [if_neg q] at hall
      simp [Try.ntmps57, Try.results57, cSl, cI, cD, hk, irow, hw, q, hall]
      intro h
      exact absurd (hall.trans h) q
  · intro _ hall
    simp [orI] at hall
    simp [Try.ntmps57, Try.results57, cSl, cI, cD, ← hall]
def ordK (a : Pp) (f n : Int) : Int := if a.file = f then cmpI a.n n else cmpI a.file f
theorem cmpI_zero {x y : Int} : cmpI x y = 0 ↔ x = y := by unfold cmpI; split <;> (try split) <;> simp <;> omega
theorem ordK_or (a b : Pp) : orI [cmpI a.file b.file, cmpI a.n b.n] = ordK a b.file b.n := by
  unfold ordK
  simp only [orI, cmpI_zero]
  split
  · split
    · rename_i h; exact (cmpI_zero.2 h).symm
    · rfl
  · rfl
theorem order_pure : PureOk Try.prog 35 (argM (cAgg rPp) fun a => argM (cAgg rPp) fun b => finM (some (.v (.int .i64 (ordK a b.file b.n))))) := by
  refine pure2 Try.func35 rfl ?_
  rintro a b r hr
  simp only [Option.some.injEq] at hr
  subst hr
  refine body_gen ((noOrc_ok.withP or_pure).withP cmp_pure) fxMix (by kernel_rfl) (by simp [Try.ntmps35]) ?_
  intro C cP cI cN cD cF cA
  have cp0 := orcP or_pure (C := C) (by rw [cP]; rfl)
  have cp1 := orcP cmp_pure (C := C) (by rw [cP]; rfl)
  replace cI : C.inl = fun _ => false := cI
  replace cD : C.dyn = fun _ => [] := cD
  clear cP cN cF cA
  simp [Try.ntmps35, Try.results35, cSl, cp0, cp1, cI, cD, rPp, Pp.row, rI, irow, irowDec, ordK_or]
end Go.Proofs.Ytdhkhnegnlmgiaa
namespace Go.Proofs.Ytdhkhnegnlmgiaa
open Go.AI
theorem ordK_lt {a : Pp} {f n : Int} : ordK a f n < 0 ↔ (a.file < f ∨ (a.file = f ∧ a.n < n)) := by
  unfold ordK cmpI
  repeat' split
  all_goals omega
theorem ordK_zero {a : Pp} {f n : Int} : ordK a f n = 0 ↔ (a.file = f ∧ a.n = n) := by
  unfold ordK cmpI
  repeat' split
  all_goals omega
def LtK (a b : Pp) : Prop := ordK a b.file b.n < 0
instance instLtK (a b : Pp) : Decidable (LtK a b) := inferInstanceAs (Decidable (ordK a b.file b.n < 0))
theorem LtK_iff {a b : Pp} : LtK a b ↔ (a.file < b.file ∨ (a.file = b.file ∧ a.n < b.n)) := ordK_lt
theorem LtK.tr {a b c : Pp} (h : LtK a b) (h2 : LtK b c) : LtK a c := by
  rw [LtK_iff] at h h2 ⊢
  omega
def DfK (a b : Pp) : Prop := 0 < b.dirty → a.dirty ≠ b.dirty
def badP (clock : Int) (p : Pp) : Bool := !(rightP p.file p.n) || decide (p.maps < 0 ∨ 64 < p.maps ∨ p.dirty < 0 ∨ clock ≤ p.dirty)
def badLast : Option Pp → Pp → Bool
  | some q, p => decide (0 ≤ ordK q p.file p.n)
  | none, _ => false
def seenB (s : List Pp) (d : Int) : Bool := s.any (fun q => decide (q.dirty = d))
def caGo (clock : Int) (seen : List Pp) : List Pp → Int
  | [] => 0
  | p :: r => if badP clock p = true then 1 else if (badLast seen.getLast? p || (decide (0 < p.dirty) && seenB seen p.dirty)) = true then 3 else caGo clock (seen ++ [p]) r
def caCheck (c : Ca) : Int := if 64 < c.pages.length then 2 else if c.clock < 1 ∨ 1073741824 < c.clock then 1 else caGo c.clock [] c.pages
structure Good (c : Ca) : Prop where
  len : c.pages.length ≤ 64
  c1 : 1 ≤ c.clock
  c2 : c.clock ≤ 1073741824
  each : ∀ p ∈ c.pages, badP c.clock p = false
  sorted : c.pages.Pairwise LtK
  diff : c.pages.Pairwise DfK
theorem badP_iff {k : Int} {p : Pp} : badP k p = false ↔ rightP p.file p.n = true ∧ 0 ≤ p.maps ∧ p.maps ≤ 64 ∧ 0 ≤ p.dirty ∧ p.dirty < k := by
  unfold badP
  simp only [Bool.or_eq_false_iff, Bool.not_eq_false', decide_eq_false_iff_not]
  constructor
  · rintro ⟨h, h2⟩; exact ⟨h, by omega⟩
  · rintro ⟨h, h2⟩; exact ⟨h, by omega⟩
theorem pw_snoc {α : Type} {R : α → α → Prop} {s : List α} {p : α} : (s ++ [p]).Pairwise R ↔ s.Pairwise R ∧ ∀ x ∈ s, R x p := by
  rw [List.pairwise_append]; simp
theorem pw_app {α : Type} {R : α → α → Prop} {s t : List α} (h : (s ++ t).Pairwise R) : s.Pairwise R := (List.pairwise_append.1 h).1
theorem sorted_snoc {s : List Pp} {p : Pp} (h : s.Pairwise LtK) : (∀ x ∈ s, LtK x p) ↔ badLast s.getLast? p = false := by
  rcases List.eq_nil_or_concat s with rfl | ⟨o, b, rfl⟩
  · simp [badLast]
  · simp only [List.concat_eq_append] at *
    simp only [List.getLast?_append, List.getLast?_singleton, Option.some_or, badLast, decide_eq_false_iff_not, Int.not_le]
    constructor
    · intro h; exact h b (by simp)
    · intro hb x hx
      rw [pw_snoc] at h
      simp at hx
      rcases hx with hx | rfl
      · exact (h.2 x hx).tr hb
      · exact hb
theorem seen_any {s : List Pp} {p : Pp} : (decide (0 < p.dirty) && seenB s p.dirty) = false ↔ ∀ x ∈ s, DfK x p := by
  unfold seenB DfK
  rw [Bool.and_eq_false_iff, decide_eq_false_iff_not, List.any_eq_false]
  simp only [decide_eq_true_eq]
  constructor
  · rintro (h | h) x hx h2
    · exact absurd h2 h
    · exact h x hx
  · intro h
    by_cases h2 : 0 < p.dirty
    · exact .inr fun x hx => h x hx h2
    · exact .inl h2
theorem caGo_iff {k : Int} {s r : List Pp} (hs : s.Pairwise LtK) (hd : s.Pairwise DfK) : caGo k s r = 0 ↔ (∀ p ∈ r, badP k p = false) ∧ (s ++ r).Pairwise LtK ∧ (s ++ r).Pairwise DfK := by
  induction r generalizing s with
  | nil => simp [caGo, hs, hd]
  | cons p r ih =>
    have e : s ++ p :: r = (s ++ [p]) ++ r := by simp
    simp only [caGo]
    by_cases h1 : badP k p = true
    · rw [if_pos h1]
      simp only [Int.reduceEq, false_iff]
      rintro ⟨h, _⟩
      have := h p (by simp)
      rw [h1] at this; cases this
    · rw [if_neg h1]
      simp only [Bool.not_eq_true] at h1
      by_cases h2 : (badLast s.getLast? p || (decide (0 < p.dirty) && seenB s p.dirty)) = true
      · rw [if_pos h2]
        simp only [Int.reduceEq, false_iff]
        rintro ⟨_, h, h'⟩
        rw [e] at h h'
        have a1 := (sorted_snoc hs).1 (pw_snoc.1 (pw_app h)).2
        have a2 := seen_any.2 (pw_snoc.1 (pw_app h')).2
        rw [a1, a2] at h2; cases h2
      · rw [if_neg h2]
        simp only [Bool.not_eq_true, Bool.or_eq_false_iff] at h2
        rw [ih (pw_snoc.2 ⟨hs, (sorted_snoc hs).2 h2.1⟩) (pw_snoc.2 ⟨hd, seen_any.1 h2.2⟩), e]
        simp [h1]
theorem caCheck_iff {c : Ca} : caCheck c = 0 ↔ Good c := by
  unfold caCheck
  split
  · rename_i h
    simp only [Int.reduceEq, false_iff]
    intro g
    have := g.len
    omega
  · rename_i h
    split
    · rename_i h2
      simp only [Int.reduceEq, false_iff]
      intro g
      have := g.c1; have := g.c2
      omega
    · rename_i h2
      rw [caGo_iff List.Pairwise.nil List.Pairwise.nil]
      constructor
      · rintro ⟨h3, h4, h5⟩
        exact ⟨by omega, by omega, by omega, h3, h4, h5⟩
      · intro g
        exact ⟨g.each, g.sorted, g.diff⟩
def caChk (c : Ca) (f n : Int) : Int := if caCheck c = 0 then (if rightP f n = true then 0 else 1) else caCheck c
theorem caChk_iff {c : Ca} {f n : Int} : caChk c f n = 0 ↔ Good c ∧ rightP f n = true := by
  unfold caChk
  rw [← caCheck_iff]
  split
  · rename_i h; split
    · rename_i h2; simp [h, h2]
    · rename_i h2; simp [h2]
  · rename_i h; simp [h]
/-- how many lie before a place -/
def lowG (l : List Pp) (f n : Int) : Nat := (l.takeWhile (fun x => decide (ordK x f n < 0))).length
theorem lowG_le (l : List Pp) (f n : Int) : lowG l f n ≤ l.length := by
  unfold lowG
  exact (List.takeWhile_sublist _).length_le
theorem lowG_iff {l : List Pp} {f n : Int} (h : l.Pairwise LtK) (i : Nat) (hi : i < l.length) : ordK l[i] f n < 0 ↔ i < lowG l f n := by
  unfold lowG
  induction l generalizing i with
  | nil => simp at hi
  | cons a l ih =>
    simp only [List.pairwise_cons] at h
    by_cases q : ordK a f n < 0
    · simp only [List.takeWhile_cons, q, decide_true, if_true, List.length_cons]
      cases i with
      | zero => simp [q]
      | succ i =>
        simp only [List.getElem_cons_succ]
        rw [ih h.2 i (by simpa using hi)]
        omega
    · simp only [List.takeWhile_cons, q, decide_false, Bool.false_eq_true, if_false, List.length_nil]
      simp only [Nat.not_lt_zero, iff_false]
      cases i with
      | zero => simpa using q
      | succ i =>
        simp only [List.getElem_cons_succ]
        intro hx
        apply q
        have hi' : i < l.length := by simpa using hi
        have h1 : LtK a l[i] := h.1 _ (List.getElem_mem hi')
        rw [LtK_iff] at h1
        rw [ordK_lt] at hx ⊢
        omega
def hasG (l : List Pp) (f n : Int) : Bool := match l[lowG l f n]? with | some x => decide (ordK x f n = 0) | none => false
theorem hasG_iff {l : List Pp} {f n : Int} : hasG l f n = true ↔ ∃ h : lowG l f n < l.length, l[lowG l f n].file = f ∧ l[lowG l f n].n = n := by
  unfold hasG
  by_cases h : lowG l f n < l.length
  · rw [List.getElem?_eq_getElem h]
    simp [h, ordK_zero]
  · rw [List.getElem?_eq_none (by omega)]
    simp [h]
/-- who has the place, is found -/
theorem low_at {l : List Pp} (h : l.Pairwise LtK) (i : Nat) (hi : i < l.length) : lowG l l[i].file l[i].n = i := by
  have h1 := lowG_iff (f := l[i].file) (n := l[i].n) h
  have h2 : ¬ i < lowG l l[i].file l[i].n := by
    rw [← h1 i hi, ordK_lt]; omega
  have h3 : ¬ lowG l l[i].file l[i].n < i := by
    intro hlt
    have h4 := (h1 (lowG l l[i].file l[i].n) (by omega)).mp
    have h5 : LtK l[lowG l l[i].file l[i].n] l[i] := List.pairwise_iff_getElem.1 h _ _ _ _ hlt
    have := h4 h5
    omega
  omega
theorem has_at {l : List Pp} (h : l.Pairwise LtK) (i : Nat) (hi : i < l.length) : hasG l l[i].file l[i].n = true := by
  have e := low_at h i hi
  rw [hasG_iff]
  exact ⟨by omega, by simp [e]⟩
theorem hasG_mem {l : List Pp} {f n : Int} (h : l.Pairwise LtK) : hasG l f n = true ↔ ∃ p ∈ l, p.file = f ∧ p.n = n := by
  constructor
  · intro h1
    obtain ⟨h2, h3⟩ := hasG_iff.1 h1
    exact ⟨_, List.getElem_mem h2, h3⟩
  · rintro ⟨p, hp, rfl, rfl⟩
    obtain ⟨i, hi, rfl⟩ := List.getElem_of_mem hp
    exact has_at h i hi
end Go.Proofs.Ytdhkhnegnlmgiaa
namespace Go.Proofs.Ytdhkhnegnlmgiaa
open Go.AI
set_option maxHeartbeats 2000000
set_option maxRecDepth 100000
set_option linter.unusedSimpArgs false
set_option linter.unusedVariables false
attribute [local simp] wpA wpX RunA RunD runF foot footP footB idsA bare apart runL step1 gsel_f gsel_t gsel_s res_same res_and1 res_and2 res_and3 res_and4 res_and5 res_and6 res_false res_true res_v res_ptr res_fptr res_osl res_xsl soft aAppendZ aCap ovlI ovlJ res_fsl res_esl res_agg res_tup res_fn res_junk res_anyb aPick hk imp_left iteV dstOk guardOk astep astepE AI.ev AI.look AI.put envOf aBox cellsOf allOne allOneA oneA Value.oneCell' Value.cells newObj' aFieldAddr aLoad obj readAt thenA blockA condA retA resA tupA view hot hotC hotR depthV cAgg cInt cBool mkAgg allV aAlloc aBuild fillA writeAt aStore isAggA aField idx aIndexAddr aIndex bnd aSlice aExtract aLen aBuiltin aCall isStatic eqAgg eqTy eqC ev_add ev_sub ev_mul ev_quo ev_rem ev_and ev_or ev_xor ev_andNot ev_shl ev_shr ev_eql ev_neq ev_lss ev_leq ev_gtr ev_geq ev_agg w64 wu32 wu8 ev_not ev_neg Cod.plain RCod.plain argM finM cold coldC coldR goInt intDec boolDec aggDec Weaker heapW lowA lowC Again slDec undef aBuildSlice setRows aAppend rowsOf aMakeSlice aClear aCopy softer_self softer_nil valsOf ev_min2 ev_max2 hotR_set hotR_append take_map_set irow_cold irow_mapM irow_mapMc irow_view irow_viewc irow_hotR irow_ren irow_renc irow_low WeakT heapT thOf ren renC AgainT NextF NextT fnDec cFn rNil selfLt natLt0 natLt1 getLastMap frame0 frame1 own0 own1 argG finG tau tauI tauO tauC bareA bareC bareH irow_tau irow_tauc irow_bare irow_flat irow_bareR ownA_nil ownT_nil ownA_c ownT_c ownA_s ownT_s takeMapLen footC plainA noId noIdC cloneF frame0F frame1F insertF replaceI replaceF cellDec rCell fpDec cFp rTwo deleteF allV_oA oneA_oA res_oA RunR RunE runFT footAt hotR_cat tmodN fxSz2 fxBy2 fxAg2 fxZe2 fxSl2 fxAr2 fxPl2 fxSz3 fxBy3 fxAg3 fxZe3 fxSl3 fxAr3 fxPl3 fxSz4 fxBy4 fxAg4 fxZe4 fxSl4 fxAr4 fxPl4 fxSz5 fxBy5 fxAg5 fxZe5 fxSl5 fxAr5 fxPl5 fxSz9 fxBy9 fxAg9 fxZe9 fxSl9 fxAr9 fxPl9 fxSz12 fxBy12 fxAg12 fxZe12 fxSl12 fxAr12 fxPl12 fxSz13 fxBy13 fxAg13 fxZe13 fxSl13 fxAr13 fxFi13x0 fxFi13x1 fxPl13 fxSz21 fxBy21 fxAg21 fxZe21 fxSl21 fxAr21 fxPl21 fxSz22 fxBy22 fxAg22 fxZe22 fxSl22 fxAr22 fxPl22 fxSz23 fxBy23 fxAg23 fxZe23 fxSl23 fxAr23 fxFi23x0 fxFi23x1 fxPl23 fxSz24 fxBy24 fxAg24 fxZe24 fxSl24 fxAr24 fxFi24x0 fxFi24x1 fxPl24 fxSz26 fxBy26 fxAg26 fxZe26 fxSl26 fxAr26 fxPl26 fxSz28 fxBy28 fxAg28 fxZe28 fxSl28 fxAr28 fxPl28 fxSz29 fxBy29 fxAg29 fxZe29 fxSl29 fxAr29 fxFi29x0 fxFi29x1 fxFi29x2 fxFi29x3 fxFi29x4 fxPl29 fxSz30 fxBy30 fxAg30 fxZe30 fxSl30 fxAr30 fxFi30x0 fxFi30x1 fxFi30x2 fxFi30x3 fxFi30x4 fxPl30 fxSz48 fxBy48 fxAg48 fxZe48 fxSl48 fxAr48 fxPl48 fxSz49 fxBy49 fxAg49 fxZe49 fxSl49 fxAr49 fxPl49 fxSz53 fxBy53 fxAg53 fxZe53 fxSl53 fxAr53 fxFi53x0 fxFi53x1 fxFi53x2 fxFi53x3 fxPl53 fxSz54 fxBy54 fxAg54 fxZe54 fxSl54 fxAr54 fxFi54x0 fxFi54x1 fxFi54x2 fxFi54x3 fxPl54 fxSz59 fxBy59 fxAg59 fxZe59 fxSl59 fxAr59 fxPl59 fxSz63 fxBy63 fxAg63 fxZe63 fxSl63 fxAr63 fxPl63 fxSz68 fxBy68 fxAg68 fxZe68 fxSl68 fxAr68 fxPl68 fxSz75 fxBy75 fxAg75 fxZe75 fxSl75 fxAr75 fxPl75 fxSz90 fxBy90 fxAg90 fxZe90 fxSl90 fxAr90 fxFi90x0 fxFi90x1 fxFi90x2 fxPl90 fxSz91 fxBy91 fxAg91 fxZe91 fxSl91 fxAr91 fxFi91x0 fxFi91x1 fxFi91x2 fxPl91 fxSz96 fxBy96 fxAg96 fxZe96 fxSl96 fxAr96 fxPl96 fxSz108 fxBy108 fxAg108 fxZe108 fxSl108 fxAr108 fxPl108 fxSz115 fxBy115 fxAg115 fxZe115 fxSl115 fxAr115 fxPl115 fxSz117 fxBy117 fxAg117 fxZe117 fxSl117 fxAr117 fxPl117 fxSz124 fxBy124 fxAg124 fxZe124 fxSl124 fxAr124 fxPl124 fxSz128 fxBy128 fxAg128 fxZe128 fxSl128 fxAr128 fxPl128 fxSz133 fxBy133 fxAg133 fxZe133 fxSl133 fxAr133 fxPl133 fxSz140 fxBy140 fxAg140 fxZe140 fxSl140 fxAr140 fxPl140 fxSz141 fxBy141 fxAg141 fxZe141 fxSl141 fxAr141 fxFi141x0 fxPl141 fxSz147 fxBy147 fxAg147 fxZe147 fxSl147 fxAr147 fxPl147 fxSz152 fxBy152 fxAg152 fxZe152 fxSl152 fxAr152 fxPl152 fxEq28 fxEq30 fxEq54 fxEq91 fxCv2x2 fxCv2x3 fxCv2x5 fxCv2x12 fxCv2x21 fxCv2x26 fxCv2x96 fxCv2x108 fxCv2x115 fxCv2x117 fxCv2x124 fxCv3x2 fxCv3x3 fxCv3x5 fxCv3x12 fxCv3x21 fxCv3x26 fxCv3x96 fxCv3x108 fxCv3x115 fxCv3x117 fxCv3x124 fxCv5x2 fxCv5x3 fxCv5x5 fxCv5x12 fxCv5x21 fxCv5x26 fxCv5x96 fxCv5x108 fxCv5x115 fxCv5x117 fxCv5x124 fxCv12x2 fxCv12x3 fxCv12x5 fxCv12x12 fxCv12x21 fxCv12x26 fxCv12x96 fxCv12x108 fxCv12x115 fxCv12x117 fxCv12x124 fxCv21x2 fxCv21x3 fxCv21x5 fxCv21x12 fxCv21x21 fxCv21x26 fxCv21x96 fxCv21x108 fxCv21x115 fxCv21x117 fxCv21x124 fxCv26x2 fxCv26x3 fxCv26x5 fxCv26x12 fxCv26x21 fxCv26x26 fxCv26x96 fxCv26x108 fxCv26x115 fxCv26x117 fxCv26x124 fxCv96x2 fxCv96x3 fxCv96x5 fxCv96x12 fxCv96x21 fxCv96x26 fxCv96x96 fxCv96x108 fxCv96x115 fxCv96x117 fxCv96x124 fxCv108x2 fxCv108x3 fxCv108x5 fxCv108x12 fxCv108x21 fxCv108x26 fxCv108x96 fxCv108x108 fxCv108x115 fxCv108x117 fxCv108x124 fxCv115x2 fxCv115x3 fxCv115x5 fxCv115x12 fxCv115x21 fxCv115x26 fxCv115x96 fxCv115x108 fxCv115x115 fxCv115x117 fxCv115x124 fxCv117x2 fxCv117x3 fxCv117x5 fxCv117x12 fxCv117x21 fxCv117x26 fxCv117x96 fxCv117x108 fxCv117x115 fxCv117x117 fxCv117x124 fxCv124x2 fxCv124x3 fxCv124x5 fxCv124x12 fxCv124x21 fxCv124x26 fxCv124x96 fxCv124x108 fxCv124x115 fxCv124x117 fxCv124x124 fxEb4 fxNb4 fxLt9 fxLn22 fxNe22 fxNn22 fxOe22 fxOn22 fxXe22 fxXn22 fxLn48 fxNe48 fxNn48 fxOe48 fxOn48 fxXe48 fxXn48 fxLn49 fxNe49 fxNn49 fxOe49 fxOn49 fxXe49 fxXn49 fxLn59 fxNe59 fxNn59 fxOe59 fxOn59 fxXe59 fxXn59 fxLn63 fxNe63 fxNn63 fxOe63 fxOn63 fxXe63 fxXn63 fxLn75 fxNe75 fxNn75 fxOe75 fxOn75 fxXe75 fxXn75 fxFn3 fxFm3 fxFb3 fxFi3 fxFj3 fxFn4 fxFm4 fxFb4 fxFi4 fxFj4 fxFn5 fxFm5 fxFb5 fxFi5 fxFj5 fxFn6 fxFm6 fxFb6 fxFi6 fxFj6 fxFn7 fxFm7 fxFb7 fxFi7 fxFj7 fxFn8 fxFm8 fxFb8 fxFi8 fxFj8 fxFn9 fxFm9 fxFb9 fxFi9 fxFj9 fxFn10 fxFm10 fxFb10 fxFi10 fxFj10 fxFn11 fxFm11 fxFb11 fxFi11 fxFj11 fxFn12 fxFm12 fxFb12 fxFi12 fxFj12 fxFn13 fxFm13 fxFb13 fxFi13 fxFj13 fxFn14 fxFm14 fxFb14 fxFi14 fxFj14 fxFn15 fxFm15 fxFb15 fxFi15 fxFj15 fxFn16 fxFm16 fxFb16 fxFi16 fxFj16 fxFn17 fxFm17 fxFb17 fxFi17 fxFj17 fxFn18 fxFm18 fxFb18 fxFi18 fxFj18 fxFn19 fxFm19 fxFb19 fxFi19 fxFj19 fxFn20 fxFm20 fxFb20 fxFi20 fxFj20 fxFn21 fxFm21 fxFb21 fxFi21 fxFj21 fxFn22 fxFm22 fxFb22 fxFi22 fxFj22 fxFn23 fxFm23 fxFb23 fxFi23 fxFj23 fxFn24 fxFm24 fxFb24 fxFi24 fxFj24 fxFn25 fxFm25 fxFb25 fxFi25 fxFj25 fxFn26 fxFm26 fxFb26 fxFi26 fxFj26 fxFn27 fxFm27 fxFb27 fxFi27 fxFj27 fxFn28 fxFm28 fxFb28 fxFi28 fxFj28 fxFn29 fxFm29 fxFb29 fxFi29 fxFj29 fxFn30 fxFm30 fxFb30 fxFi30 fxFj30 fxFn31 fxFm31 fxFb31 fxFi31 fxFj31 fxFn32 fxFm32 fxFb32 fxFi32 fxFj32 fxFn33 fxFm33 fxFb33 fxFi33 fxFj33 fxFn34 fxFm34 fxFb34 fxFi34 fxFj34 fxFn35 fxFm35 fxFb35 fxFi35 fxFj35 fxFn36 fxFm36 fxFb36 fxFi36 fxFj36 fxFn37 fxFm37 fxFb37 fxFi37 fxFj37 fxFn38 fxFm38 fxFb38 fxFi38 fxFj38 fxFn39 fxFm39 fxFb39 fxFi39 fxFj39 fxFn40 fxFm40 fxFb40 fxFi40 fxFj40 fxFn41 fxFm41 fxFb41 fxFi41 fxFj41 fxFn42 fxFm42 fxFb42 fxFi42 fxFj42 fxFn43 fxFm43 fxFb43 fxFi43 fxFj43 fxFn44 fxFm44 fxFb44 fxFi44 fxFj44 fxFn45 fxFm45 fxFb45 fxFi45 fxFj45 fxFn46 fxFm46 fxFb46 fxFi46 fxFj46 fxFn47 fxFm47 fxFb47 fxFi47 fxFj47 fxFn48 fxFm48 fxFb48 fxFi48 fxFj48 fxFn49 fxFm49 fxFb49 fxFi49 fxFj49 fxFn50 fxFm50 fxFb50 fxFi50 fxFj50 fxFn51 fxFm51 fxFb51 fxFi51 fxFj51 fxFn52 fxFm52 fxFb52 fxFi52 fxFj52 fxFn53 fxFm53 fxFb53 fxFi53 fxFj53 fxFn54 fxFm54 fxFb54 fxFi54 fxFj54 fxFn55 fxFm55 fxFb55 fxFi55 fxFj55 fxFn56 fxFm56 fxFb56 fxFi56 fxFj56 fxFn57 fxFm57 fxFb57 fxFi57 fxFj57 fxFn58 fxFm58 fxFb58 fxFi58 fxFj58 fxFn59 fxFm59 fxFb59 fxFi59 fxFj59 fxFn60 fxFm60 fxFn61 fxFm61 fxFb61 fxFi61 fxFj61 fxFn62 fxFm62 fxFb62 fxFi62 fxFj62 fxFn63 fxFm63 fxFb63 fxFi63 fxFj63 fxFn64 fxFm64 fxFb64 fxFi64 fxFj64 fxFn65 fxFm65 fxFb65 fxFi65 fxFj65 fxFn66 fxFm66 fxFb66 fxFi66 fxFj66 fxFn67 fxFm67 fxFb67 fxFi67 fxFj67 fxFn68 fxFm68 fxFb68 fxFi68 fxFj68 fxFn69 fxFm69 fxFb69 fxFi69 fxFj69 fxFn70 fxFm70 fxFb70 fxFi70 fxFj70 fxFn71 fxFm71 fxFb71 fxFi71 fxFj71 fxFn72 fxFm72 fxFb72 fxFi72 fxFj72 fxFn73 fxFm73 fxFb73 fxFi73 fxFj73 fxFn74 fxFm74 fxFb74 fxFi74 fxFj74 fxFn75 fxFm75 fxFb75 fxFi75 fxFj75 fxFn76 fxFm76 fxFb76 fxFi76 fxFj76 fxFn77 fxFm77 fxFb77 fxFi77 fxFj77 fxFn78 fxFm78 fxFb78 fxFi78 fxFj78 fxFn79 fxFm79 fxFb79 fxFi79 fxFj79 fxFn80 fxFm80 fxFb80 fxFi80 fxFj80 fxFn81 fxFm81 fxFb81 fxFi81 fxFj81 fxFn82 fxFm82 fxFb82 fxFi82 fxFj82 fxFn83 fxFm83 fxFb83 fxFi83 fxFj83 fxFn84 fxFm84 fxFb84 fxFi84 fxFj84 fxFn85 fxFm85 fxFb85 fxFi85 fxFj85 fxFn86 fxFm86 fxFb86 fxFi86 fxFj86 fxFn87 fxFm87 fxFb87 fxFi87 fxFj87 fxFn88 fxFm88 fxFb88 fxFi88 fxFj88 fxFn89 fxFm89 fxFb89 fxFi89 fxFj89 fxFn90 fxFm90 fxFb90 fxFi90 fxFj90 fxFn91 fxFm91 fxFb91 fxFi91 fxFj91 fxFn92 fxFm92 fxFb92 fxFi92 fxFj92 fxFn93 fxFm93 fxFb93 fxFi93 fxFj93 fxFn94 fxFm94 fxFb94 fxFi94 fxFj94 fxFn95 fxFm95 fxFb95 fxFi95 fxFj95 fxFn96 fxFm96 fxFb96 fxFi96 fxFj96 fxFn97 fxFm97 fxFb97 fxFi97 fxFj97 fxFn98 fxFm98 fxFb98 fxFi98 fxFj98 fxFn99 fxFm99 fxFb99 fxFi99 fxFj99 fxFn100 fxFm100 fxFb100 fxFi100 fxFj100 fxFn101 fxFm101 fxFb101 fxFi101 fxFj101
attribute [local simp] Pg.eta Pg.cold Pg.mapM Pg.mapMc Pg.view Pg.viewc Pg.hotR Pg.ren Pg.renc Pg.low Pg.tau Pg.tauc Pg.bare Pg.flat Pg.flat1 Pg.mapMt Pg.mapMd Pg.coldt Pg.coldd Pg.hotRt Pg.hotRd
attribute [local simp] Pp.eta Pp.cold Pp.mapM Pp.mapMc Pp.view Pp.viewc Pp.hotR Pp.ren Pp.renc Pp.low Pp.tau Pp.tauc Pp.bare Pp.flat Pp.flat1 Pp.mapMt Pp.mapMd Pp.coldt Pp.coldd Pp.hotRt Pp.hotRd
attribute [local simp] Ca.eta Ca.dec_row Ca.dec_hrow Ca.cold Ca.hcold Ca.mapM Ca.mapMc Ca.hmapM Ca.hmapMc Ca.view Ca.viewc Ca.hview Ca.hviewc Ca.hotR Ca.ren Ca.renc Ca.low Ca.hlow
def seenM (ks : List Int) : List Row := ks.map fun d => [.v (.int .i64 d), .v (.bool true)]
def addK (ks : List Int) (d : Int) : List Int := if d ∈ ks then ks else ks ++ [d]
theorem keyD_eq (a b : Int) : keyEq Try.prog 3 (.int .i64 a) (.int .i64 b) = some (decide (a = b)) := by
  simp [keyEq]
  rw [Bool.eq_iff_iff]; simp
theorem seen_find (d : Int) (ks : List Int) : findR Try.prog 3 (.int .i64 d) (seenM ks) = some (if d ∈ ks then some (.v (.bool true)) else none) := by
  induction ks with
  | nil => simp [seenM, findR]
  | cons a l ih =>
    simp only [seenM, List.map_cons, findR, keyD_eq] at ih ⊢
    by_cases h : d = a
    · simp [h]
    · simp [h, ih]
theorem seen_put (d : Int) (ks : List Int) : putR Try.prog 3 (.int .i64 d) (.v (.bool true)) (seenM ks) = some (seenM (addK ks d)) := by
  induction ks with
  | nil => simp [seenM, putR, addK]
  | cons a l ih =>
    simp only [seenM, List.map_cons, putR, keyD_eq] at ih ⊢
    by_cases h : d = a
    · simp [h, addK, Instr.sameBits]
    · simp only [h, decide_false]
      simp only [ih]
      unfold addK
      by_cases h2 : d ∈ l <;> simp [h, h2]
theorem take_last {l : List Pp} {k : Nat} (hk : k < l.length) : (l.take (k + 1)).getLast? = some l[k] := by
  rw [List.take_succ_eq_append_getElem hk, List.getLast?_concat]
theorem seen_low {n : Nat} {ks : List Int} {x : Row} (h : x ∈ seenM ks) : ∀ a ∈ x, lowA n a = true := by
  simp only [seenM, List.mem_map] at h
  obtain ⟨p, _, rfl⟩ := h
  simp [lowA]
theorem addK_seen {l : List Pp} {ks : List Int} {k : Nat} (hk : k < l.length) (h : ∀ d, d ∈ ks ↔ seenB (l.take k) d = true) (d : Int) : d ∈ addK ks l[k].dirty ↔ seenB (l.take (k + 1)) d = true := by
  have e : seenB (l.take (k + 1)) d = (seenB (l.take k) d || decide (l[k].dirty = d)) := by
    rw [List.take_succ_eq_append_getElem hk]
    simp only [seenB, List.any_append, List.any_cons, List.any_nil, Bool.or_false]
  rw [e]
  unfold addK
  by_cases h2 : l[k].dirty ∈ ks
  · rw [if_pos h2]
    constructor
    · intro h3; rw [(h d).1 h3]; rfl
    · intro h3
      rw [Bool.or_eq_true] at h3
      rcases h3 with h3 | h3
      · exact (h d).2 h3
      · simp at h3; subst h3; exact h2
  · rw [if_neg h2, List.mem_append, h d, Bool.or_eq_true]
    simp only [List.mem_singleton, decide_eq_true_eq]
    exact or_congr Iff.rfl eq_comm
theorem caCheck_pure : PureOk Try.prog 13 (argM (cAgg rCa) fun c => finM (some (.v (.int .i64 (caCheck c))))) := by
  refine pure1 Try.func13 rfl ?_
  rintro c r hr
  simp only [Option.some.injEq] at hr
  subst hr
  refine body_gen ((noOrc_ok.withP right_pure).withP order_pure) fxMix (by kernel_rfl) (by simp [Try.ntmps13]) ?_
  intro C cP cI cN cD cF cA
  have cp0 := orcP right_pure (C := C) (by rw [cP]; rfl)
  have cp1 := orcP order_pure (C := C) (by rw [cP]; rfl)
  replace cI : C.inl = fun _ => false := cI
  replace cD : C.dyn = fun _ => [] := cD
  clear cP cN cF cA
  unfold caCheck
  obtain ⟨l, T⟩ := c
  by_cases h1 : 64 < l.length
  · have h1' := eq_true (show (64 : Int) < l.length by omega)
    rw [if_pos (by simpa using h1)]
    clear h1
    simp [Try.ntmps13, Try.results13, cSl, cp0, cp1, cI, cD, rCa, caDec, Ca.row, rPp, h1']
    done
  have h1' : ¬ (64 : Int) < l.length := by omega
  by_cases h2 : T < 1
  · simp [Try.ntmps13, Try.results13, cSl, cp0, cp1, cI, cD, rCa, caDec, Ca.row, rPp, h1, h1', h2]
    done
  by_cases h3 : 1073741824 < T
  · simp [Try.ntmps13, Try.results13, cSl, cp0, cp1, cI, cD, rCa, caDec, Ca.row, rPp, h1, h1', h2, h3]
    done
  have h64 : l.length ≤ 64 := by omega
  rw [if_neg (by simpa using h1), if_neg (by simp only; omega)]
  simp [Try.ntmps13, Try.results13, cSl, cp0, cp1, cI, cD, rCa, caDec, Ca.row, rPp, h1, h1', h2, h3]
  refine loop_for l.length (fun k (ks : List Int) => ([(1, .ptr 0 2 0 0), (3, .ptr 1 0 0 0), (20, .fsl false 20 (l.map Pp.row)), (21, .v (.int .i64 l.length)), (22, .v (.int .i64 k))], [some (2, [[.fsl false 20 (l.map Pp.row), .v (.int .i64 T)]]), some (0, seenM ks)])) (fun k ks => (∀ d, d ∈ ks ↔ seenB (l.take k) d = true) ∧ caGo T (l.take k) (l.drop k) = caGo T [] l) [] (by omega) ⟨by simp [seenB], rfl⟩ (by simp [seenM]) ?_ ?_
  · rintro k ks hk ⟨hks, hall⟩ hw
    rw [List.drop_eq_getElem_cons hk] at hall
    simp only [caGo] at hall
    have hf := seen_find l[k].dirty ks
    have hp := seen_put l[k].dirty ks
    have hko : keyOk Try.prog 3 (.int .i64 l[k].dirty) = true := rfl
    have hnx := addK_seen hk hks
    have hsd := hks l[k].dirty
    have hlw := fun n x (h : x ∈ seenM (addK ks l[k].dirty)) => seen_low (n := n) h
    have hbb : badP T l[k] = true → caGo T [] l = 1 := fun h => by rw [if_pos h] at hall; exact hall.symm
    by_cases r : rightP l[k].file l[k].n = true
    case neg =>
      have hb := hbb (by simp [badP, r])
      simp only [Bool.not_eq_true] at r
      simp [Try.ntmps13, Try.results13, cSl, cp0, cp1, cI, cD, rCa, caDec, Ca.row, rPp, Pp.row, ppDec, hk, hw, r, hb]
      done
    by_cases m0 : l[k].maps < 0
    · have hb := hbb (by simp [badP, m0])
      simp [Try.ntmps13, Try.results13, cSl, cp0, cp1, cI, cD, rCa, caDec, Ca.row, rPp, Pp.row, ppDec, hk, hw, r, m0, hb]
      done
    by_cases m1 : 64 < l[k].maps
    · have hb := hbb (by simp [badP, m1])
      simp [Try.ntmps13, Try.results13, cSl, cp0, cp1, cI, cD, rCa, caDec, Ca.row, rPp, Pp.row, ppDec, hk, hw, r, m0, m1, hb]
      done
    by_cases d0 : l[k].dirty < 0
    · have hb := hbb (by simp [badP, d0])
      simp [Try.ntmps13, Try.results13, cSl, cp0, cp1, cI, cD, rCa, caDec, Ca.row, rPp, Pp.row, ppDec, hk, hw, r, m0, m1, d0, hb]
      done
    by_cases d1 : T ≤ l[k].dirty
    · have hb := hbb (by simp [badP, d1])
      simp [Try.ntmps13, Try.results13, cSl, cp0, cp1, cI, cD, rCa, caDec, Ca.row, rPp, Pp.row, ppDec, hk, hw, r, m0, m1, d0, d1, hb]
      done
    have hnb : ¬ badP T l[k] = true := by simp [badP, r]; omega
    rw [if_neg hnb] at hall
    clear hbb hnb
    by_cases q0 : k = 0
    · have e0 : l.take k = [] := by rw [q0]; rfl
      have q0b : ¬ (0 < k) := by omega
      have q0c : ¬ ((0 : Int) < (k : Int)) := by omega
      have hg : (l.take k).getLast? = none := by rw [e0]; rfl
      have hs0 : seenB (l.take k) l[k].dirty = false := by rw [e0]; rfl
      have hn0 : ¬ l[k].dirty ∈ ks := by rw [hsd, hs0]; decide
      simp only [hg, badLast, hs0, Bool.and_false, Bool.or_false, Bool.false_eq_true, if_false, ← List.take_succ_eq_append_getElem hk] at hall
      simp only [hn0, if_false] at hf
      clear q0 e0 hg
      by_cases dp : 0 < l[k].dirty
      · simp [Try.ntmps13, Try.results13, cSl, cp0, cp1, cI, cD, rCa, caDec, Ca.row, rPp, Pp.row, ppDec, hk, hw, r, m0, m1, d0, d1, q0b, q0c, dp, aLookup, aMapUpdate, Try.underlying68, hko, hf, hp, lkRes]
        exact ⟨addK ks l[k].dirty, ⟨hnx, hall⟩, rfl, fun x hx => hlw _ x hx⟩
      · simp [Try.ntmps13, Try.results13, cSl, cp0, cp1, cI, cD, rCa, caDec, Ca.row, rPp, Pp.row, ppDec, hk, hw, r, m0, m1, d0, d1, q0b, q0c, dp, aLookup, aMapUpdate, Try.underlying68, hko, hf, hp, lkRes]
        exact ⟨addK ks l[k].dirty, ⟨hnx, hall⟩, rfl, fun x hx => hlw _ x hx⟩
    · have hj : k - 1 < l.length := by omega
      have q0p := Nat.pos_of_ne_zero q0
      have hg : (l.take k).getLast? = some l[k - 1] := by
        have := take_last hj
        rwa [show k - 1 + 1 = k by omega] at this
      have hjw : IntKind.i64.wrap ((k : Int) - 1) = ((k - 1 : Nat) : Int) := by rw [w64 (by omega) (by omega)]; omega
      simp only [hg, badLast] at hall
      by_cases q2 : 0 ≤ ordK l[k - 1] l[k].file l[k].n
      · have hb : caGo T [] l = 3 := by rw [← hall]; simp [q2]
        simp [Try.ntmps13, Try.results13, cSl, cp0, cp1, cI, cD, rCa, caDec, Ca.row, rPp, Pp.row, ppDec, hk, hj, hjw, hw, r, m0, m1, d0, d1, q0, q0p, q2, hb]
        done
      by_cases dp : 0 < l[k].dirty
      · by_cases hs0 : seenB (l.take k) l[k].dirty = true
        · have hn0 : l[k].dirty ∈ ks := hsd.2 hs0
          have hb : caGo T [] l = 3 := by rw [← hall]; simp [dp, hs0]
          simp only [hn0, if_true] at hf
          simp [Try.ntmps13, Try.results13, cSl, cp0, cp1, cI, cD, rCa, caDec, Ca.row, rPp, Pp.row, ppDec, hk, hj, hjw, hw, r, m0, m1, d0, d1, q0, q0p, q2, dp, aLookup, aMapUpdate, Try.underlying68, hko, hf, hp, lkRes, hb]
          done
        · have hn0 : ¬ l[k].dirty ∈ ks := fun h => hs0 (hsd.1 h)
          simp only [Bool.not_eq_true] at hs0
          simp only [q2, hs0, decide_false, Bool.and_false, Bool.or_false, Bool.false_eq_true, if_false, ← List.take_succ_eq_append_getElem hk] at hall
          simp only [hn0, if_false] at hf
          simp [Try.ntmps13, Try.results13, cSl, cp0, cp1, cI, cD, rCa, caDec, Ca.row, rPp, Pp.row, ppDec, hk, hj, hjw, hw, r, m0, m1, d0, d1, q0, q0p, q2, dp, aLookup, aMapUpdate, Try.underlying68, hko, hf, hp, lkRes]
          exact ⟨addK ks l[k].dirty, ⟨hnx, hall⟩, rfl, fun x hx => hlw _ x hx⟩
      · simp only [q2, dp, decide_false, Bool.false_and, Bool.or_false, Bool.false_eq_true, if_false, ← List.take_succ_eq_append_getElem hk] at hall
        simp [Try.ntmps13, Try.results13, cSl, cp0, cp1, cI, cD, rCa, caDec, Ca.row, rPp, Pp.row, ppDec, hk, hj, hjw, hw, r, m0, m1, d0, d1, q0, q0p, q2, dp, aLookup, aMapUpdate, Try.underlying68, hko, hp, lkRes]
        exact ⟨addK ks l[k].dirty, ⟨hnx, hall⟩, rfl, fun x hx => hlw _ x hx⟩
  · rintro ks ⟨_, hall⟩
    simp [caGo] at hall
    simp [Try.ntmps13, Try.results13, cSl, cp0, cp1, cI, cD, ← hall]
    done
end Go.Proofs.Ytdhkhnegnlmgiaa
namespace Go.Proofs.Ytdhkhnegnlmgiaa
open Go.AI
set_option maxHeartbeats 2000000
set_option maxRecDepth 100000
set_option linter.unusedSimpArgs false
set_option linter.unusedVariables false
attribute [local simp] wpA wpX RunA RunD runF foot footP footB idsA bare apart runL step1 gsel_f gsel_t gsel_s res_same res_and1 res_and2 res_and3 res_and4 res_and5 res_and6 res_false res_true res_v res_ptr res_fptr res_osl res_xsl soft aAppendZ aCap ovlI ovlJ res_fsl res_esl res_agg res_tup res_fn res_junk res_anyb aPick hk imp_left iteV dstOk guardOk astep astepE AI.ev AI.look AI.put envOf aBox cellsOf allOne allOneA oneA Value.oneCell' Value.cells newObj' aFieldAddr aLoad obj readAt thenA blockA condA retA resA tupA view hot hotC hotR depthV cAgg cInt cBool mkAgg allV aAlloc aBuild fillA writeAt aStore isAggA aField idx aIndexAddr aIndex bnd aSlice aExtract aLen aBuiltin aCall isStatic eqAgg eqTy eqC ev_add ev_sub ev_mul ev_quo ev_rem ev_and ev_or ev_xor ev_andNot ev_shl ev_shr ev_eql ev_neq ev_lss ev_leq ev_gtr ev_geq ev_agg w64 wu32 wu8 ev_not ev_neg Cod.plain RCod.plain argM finM cold coldC coldR goInt intDec boolDec aggDec Weaker heapW lowA lowC Again slDec undef aBuildSlice setRows aAppend rowsOf aMakeSlice aClear aCopy softer_self softer_nil valsOf ev_min2 ev_max2 hotR_set hotR_append take_map_set irow_cold irow_mapM irow_mapMc irow_view irow_viewc irow_hotR irow_ren irow_renc irow_low WeakT heapT thOf ren renC AgainT NextF NextT fnDec cFn rNil selfLt natLt0 natLt1 getLastMap frame0 frame1 own0 own1 argG finG tau tauI tauO tauC bareA bareC bareH irow_tau irow_tauc irow_bare irow_flat irow_bareR ownA_nil ownT_nil ownA_c ownT_c ownA_s ownT_s takeMapLen footC plainA noId noIdC cloneF frame0F frame1F insertF replaceI replaceF cellDec rCell fpDec cFp rTwo deleteF allV_oA oneA_oA res_oA RunR RunE runFT footAt hotR_cat tmodN fxSz2 fxBy2 fxAg2 fxZe2 fxSl2 fxAr2 fxPl2 fxSz3 fxBy3 fxAg3 fxZe3 fxSl3 fxAr3 fxPl3 fxSz4 fxBy4 fxAg4 fxZe4 fxSl4 fxAr4 fxPl4 fxSz5 fxBy5 fxAg5 fxZe5 fxSl5 fxAr5 fxPl5 fxSz9 fxBy9 fxAg9 fxZe9 fxSl9 fxAr9 fxPl9 fxSz12 fxBy12 fxAg12 fxZe12 fxSl12 fxAr12 fxPl12 fxSz13 fxBy13 fxAg13 fxZe13 fxSl13 fxAr13 fxFi13x0 fxFi13x1 fxPl13 fxSz21 fxBy21 fxAg21 fxZe21 fxSl21 fxAr21 fxPl21 fxSz22 fxBy22 fxAg22 fxZe22 fxSl22 fxAr22 fxPl22 fxSz23 fxBy23 fxAg23 fxZe23 fxSl23 fxAr23 fxFi23x0 fxFi23x1 fxPl23 fxSz24 fxBy24 fxAg24 fxZe24 fxSl24 fxAr24 fxFi24x0 fxFi24x1 fxPl24 fxSz26 fxBy26 fxAg26 fxZe26 fxSl26 fxAr26 fxPl26 fxSz28 fxBy28 fxAg28 fxZe28 fxSl28 fxAr28 fxPl28 fxSz29 fxBy29 fxAg29 fxZe29 fxSl29 fxAr29 fxFi29x0 fxFi29x1 fxFi29x2 fxFi29x3 fxFi29x4 fxPl29 fxSz30 fxBy30 fxAg30 fxZe30 fxSl30 fxAr30 fxFi30x0 fxFi30x1 fxFi30x2 fxFi30x3 fxFi30x4 fxPl30 fxSz48 fxBy48 fxAg48 fxZe48 fxSl48 fxAr48 fxPl48 fxSz49 fxBy49 fxAg49 fxZe49 fxSl49 fxAr49 fxPl49 fxSz53 fxBy53 fxAg53 fxZe53 fxSl53 fxAr53 fxFi53x0 fxFi53x1 fxFi53x2 fxFi53x3 fxPl53 fxSz54 fxBy54 fxAg54 fxZe54 fxSl54 fxAr54 fxFi54x0 fxFi54x1 fxFi54x2 fxFi54x3 fxPl54 fxSz59 fxBy59 fxAg59 fxZe59 fxSl59 fxAr59 fxPl59 fxSz63 fxBy63 fxAg63 fxZe63 fxSl63 fxAr63 fxPl63 fxSz68 fxBy68 fxAg68 fxZe68 fxSl68 fxAr68 fxPl68 fxSz75 fxBy75 fxAg75 fxZe75 fxSl75 fxAr75 fxPl75 fxSz90 fxBy90 fxAg90 fxZe90 fxSl90 fxAr90 fxFi90x0 fxFi90x1 fxFi90x2 fxPl90 fxSz91 fxBy91 fxAg91 fxZe91 fxSl91 fxAr91 fxFi91x0 fxFi91x1 fxFi91x2 fxPl91 fxSz96 fxBy96 fxAg96 fxZe96 fxSl96 fxAr96 fxPl96 fxSz108 fxBy108 fxAg108 fxZe108 fxSl108 fxAr108 fxPl108 fxSz115 fxBy115 fxAg115 fxZe115 fxSl115 fxAr115 fxPl115 fxSz117 fxBy117 fxAg117 fxZe117 fxSl117 fxAr117 fxPl117 fxSz124 fxBy124 fxAg124 fxZe124 fxSl124 fxAr124 fxPl124 fxSz128 fxBy128 fxAg128 fxZe128 fxSl128 fxAr128 fxPl128 fxSz133 fxBy133 fxAg133 fxZe133 fxSl133 fxAr133 fxPl133 fxSz140 fxBy140 fxAg140 fxZe140 fxSl140 fxAr140 fxPl140 fxSz141 fxBy141 fxAg141 fxZe141 fxSl141 fxAr141 fxFi141x0 fxPl141 fxSz147 fxBy147 fxAg147 fxZe147 fxSl147 fxAr147 fxPl147 fxSz152 fxBy152 fxAg152 fxZe152 fxSl152 fxAr152 fxPl152 fxEq28 fxEq30 fxEq54 fxEq91 fxCv2x2 fxCv2x3 fxCv2x5 fxCv2x12 fxCv2x21 fxCv2x26 fxCv2x96 fxCv2x108 fxCv2x115 fxCv2x117 fxCv2x124 fxCv3x2 fxCv3x3 fxCv3x5 fxCv3x12 fxCv3x21 fxCv3x26 fxCv3x96 fxCv3x108 fxCv3x115 fxCv3x117 fxCv3x124 fxCv5x2 fxCv5x3 fxCv5x5 fxCv5x12 fxCv5x21 fxCv5x26 fxCv5x96 fxCv5x108 fxCv5x115 fxCv5x117 fxCv5x124 fxCv12x2 fxCv12x3 fxCv12x5 fxCv12x12 fxCv12x21 fxCv12x26 fxCv12x96 fxCv12x108 fxCv12x115 fxCv12x117 fxCv12x124 fxCv21x2 fxCv21x3 fxCv21x5 fxCv21x12 fxCv21x21 fxCv21x26 fxCv21x96 fxCv21x108 fxCv21x115 fxCv21x117 fxCv21x124 fxCv26x2 fxCv26x3 fxCv26x5 fxCv26x12 fxCv26x21 fxCv26x26 fxCv26x96 fxCv26x108 fxCv26x115 fxCv26x117 fxCv26x124 fxCv96x2 fxCv96x3 fxCv96x5 fxCv96x12 fxCv96x21 fxCv96x26 fxCv96x96 fxCv96x108 fxCv96x115 fxCv96x117 fxCv96x124 fxCv108x2 fxCv108x3 fxCv108x5 fxCv108x12 fxCv108x21 fxCv108x26 fxCv108x96 fxCv108x108 fxCv108x115 fxCv108x117 fxCv108x124 fxCv115x2 fxCv115x3 fxCv115x5 fxCv115x12 fxCv115x21 fxCv115x26 fxCv115x96 fxCv115x108 fxCv115x115 fxCv115x117 fxCv115x124 fxCv117x2 fxCv117x3 fxCv117x5 fxCv117x12 fxCv117x21 fxCv117x26 fxCv117x96 fxCv117x108 fxCv117x115 fxCv117x117 fxCv117x124 fxCv124x2 fxCv124x3 fxCv124x5 fxCv124x12 fxCv124x21 fxCv124x26 fxCv124x96 fxCv124x108 fxCv124x115 fxCv124x117 fxCv124x124 fxEb4 fxNb4 fxLt9 fxLn22 fxNe22 fxNn22 fxOe22 fxOn22 fxXe22 fxXn22 fxLn48 fxNe48 fxNn48 fxOe48 fxOn48 fxXe48 fxXn48 fxLn49 fxNe49 fxNn49 fxOe49 fxOn49 fxXe49 fxXn49 fxLn59 fxNe59 fxNn59 fxOe59 fxOn59 fxXe59 fxXn59 fxLn63 fxNe63 fxNn63 fxOe63 fxOn63 fxXe63 fxXn63 fxLn75 fxNe75 fxNn75 fxOe75 fxOn75 fxXe75 fxXn75 fxFn3 fxFm3 fxFb3 fxFi3 fxFj3 fxFn4 fxFm4 fxFb4 fxFi4 fxFj4 fxFn5 fxFm5 fxFb5 fxFi5 fxFj5 fxFn6 fxFm6 fxFb6 fxFi6 fxFj6 fxFn7 fxFm7 fxFb7 fxFi7 fxFj7 fxFn8 fxFm8 fxFb8 fxFi8 fxFj8 fxFn9 fxFm9 fxFb9 fxFi9 fxFj9 fxFn10 fxFm10 fxFb10 fxFi10 fxFj10 fxFn11 fxFm11 fxFb11 fxFi11 fxFj11 fxFn12 fxFm12 fxFb12 fxFi12 fxFj12 fxFn13 fxFm13 fxFb13 fxFi13 fxFj13 fxFn14 fxFm14 fxFb14 fxFi14 fxFj14 fxFn15 fxFm15 fxFb15 fxFi15 fxFj15 fxFn16 fxFm16 fxFb16 fxFi16 fxFj16 fxFn17 fxFm17 fxFb17 fxFi17 fxFj17 fxFn18 fxFm18 fxFb18 fxFi18 fxFj18 fxFn19 fxFm19 fxFb19 fxFi19 fxFj19 fxFn20 fxFm20 fxFb20 fxFi20 fxFj20 fxFn21 fxFm21 fxFb21 fxFi21 fxFj21 fxFn22 fxFm22 fxFb22 fxFi22 fxFj22 fxFn23 fxFm23 fxFb23 fxFi23 fxFj23 fxFn24 fxFm24 fxFb24 fxFi24 fxFj24 fxFn25 fxFm25 fxFb25 fxFi25 fxFj25 fxFn26 fxFm26 fxFb26 fxFi26 fxFj26 fxFn27 fxFm27 fxFb27 fxFi27 fxFj27 fxFn28 fxFm28 fxFb28 fxFi28 fxFj28 fxFn29 fxFm29 fxFb29 fxFi29 fxFj29 fxFn30 fxFm30 fxFb30 fxFi30 fxFj30 fxFn31 fxFm31 fxFb31 fxFi31 fxFj31 fxFn32 fxFm32 fxFb32 fxFi32 fxFj32 fxFn33 fxFm33 fxFb33 fxFi33 fxFj33 fxFn34 fxFm34 fxFb34 fxFi34 fxFj34 fxFn35 fxFm35 fxFb35 fxFi35 fxFj35 fxFn36 fxFm36 fxFb36 fxFi36 fxFj36 fxFn37 fxFm37 fxFb37 fxFi37 fxFj37 fxFn38 fxFm38 fxFb38 fxFi38 fxFj38 fxFn39 fxFm39 fxFb39 fxFi39 fxFj39 fxFn40 fxFm40 fxFb40 fxFi40 fxFj40 fxFn41 fxFm41 fxFb41 fxFi41 fxFj41 fxFn42 fxFm42 fxFb42 fxFi42 fxFj42 fxFn43 fxFm43 fxFb43 fxFi43 fxFj43 fxFn44 fxFm44 fxFb44 fxFi44 fxFj44 fxFn45 fxFm45 fxFb45 fxFi45 fxFj45 fxFn46 fxFm46 fxFb46 fxFi46 fxFj46 fxFn47 fxFm47 fxFb47 fxFi47 fxFj47 fxFn48 fxFm48 fxFb48 fxFi48 fxFj48 fxFn49 fxFm49 fxFb49 fxFi49 fxFj49 fxFn50 fxFm50 fxFb50 fxFi50 fxFj50 fxFn51 fxFm51 fxFb51 fxFi51 fxFj51 fxFn52 fxFm52 fxFb52 fxFi52 fxFj52 fxFn53 fxFm53 fxFb53 fxFi53 fxFj53 fxFn54 fxFm54 fxFb54 fxFi54 fxFj54 fxFn55 fxFm55 fxFb55 fxFi55 fxFj55 fxFn56 fxFm56 fxFb56 fxFi56 fxFj56 fxFn57 fxFm57 fxFb57 fxFi57 fxFj57 fxFn58 fxFm58 fxFb58 fxFi58 fxFj58 fxFn59 fxFm59 fxFb59 fxFi59 fxFj59 fxFn60 fxFm60 fxFn61 fxFm61 fxFb61 fxFi61 fxFj61 fxFn62 fxFm62 fxFb62 fxFi62 fxFj62 fxFn63 fxFm63 fxFb63 fxFi63 fxFj63 fxFn64 fxFm64 fxFb64 fxFi64 fxFj64 fxFn65 fxFm65 fxFb65 fxFi65 fxFj65 fxFn66 fxFm66 fxFb66 fxFi66 fxFj66 fxFn67 fxFm67 fxFb67 fxFi67 fxFj67 fxFn68 fxFm68 fxFb68 fxFi68 fxFj68 fxFn69 fxFm69 fxFb69 fxFi69 fxFj69 fxFn70 fxFm70 fxFb70 fxFi70 fxFj70 fxFn71 fxFm71 fxFb71 fxFi71 fxFj71 fxFn72 fxFm72 fxFb72 fxFi72 fxFj72 fxFn73 fxFm73 fxFb73 fxFi73 fxFj73 fxFn74 fxFm74 fxFb74 fxFi74 fxFj74 fxFn75 fxFm75 fxFb75 fxFi75 fxFj75 fxFn76 fxFm76 fxFb76 fxFi76 fxFj76 fxFn77 fxFm77 fxFb77 fxFi77 fxFj77 fxFn78 fxFm78 fxFb78 fxFi78 fxFj78 fxFn79 fxFm79 fxFb79 fxFi79 fxFj79 fxFn80 fxFm80 fxFb80 fxFi80 fxFj80 fxFn81 fxFm81 fxFb81 fxFi81 fxFj81 fxFn82 fxFm82 fxFb82 fxFi82 fxFj82 fxFn83 fxFm83 fxFb83 fxFi83 fxFj83 fxFn84 fxFm84 fxFb84 fxFi84 fxFj84 fxFn85 fxFm85 fxFb85 fxFi85 fxFj85 fxFn86 fxFm86 fxFb86 fxFi86 fxFj86 fxFn87 fxFm87 fxFb87 fxFi87 fxFj87 fxFn88 fxFm88 fxFb88 fxFi88 fxFj88 fxFn89 fxFm89 fxFb89 fxFi89 fxFj89 fxFn90 fxFm90 fxFb90 fxFi90 fxFj90 fxFn91 fxFm91 fxFb91 fxFi91 fxFj91 fxFn92 fxFm92 fxFb92 fxFi92 fxFj92 fxFn93 fxFm93 fxFb93 fxFi93 fxFj93 fxFn94 fxFm94 fxFb94 fxFi94 fxFj94 fxFn95 fxFm95 fxFb95 fxFi95 fxFj95 fxFn96 fxFm96 fxFb96 fxFi96 fxFj96 fxFn97 fxFm97 fxFb97 fxFi97 fxFj97 fxFn98 fxFm98 fxFb98 fxFi98 fxFj98 fxFn99 fxFm99 fxFb99 fxFi99 fxFj99 fxFn100 fxFm100 fxFb100 fxFi100 fxFj100 fxFn101 fxFm101 fxFb101 fxFi101 fxFj101
attribute [local simp] Pg.eta Pg.cold Pg.mapM Pg.mapMc Pg.view Pg.viewc Pg.hotR Pg.ren Pg.renc Pg.low Pg.tau Pg.tauc Pg.bare Pg.flat Pg.flat1 Pg.mapMt Pg.mapMd Pg.coldt Pg.coldd Pg.hotRt Pg.hotRd
attribute [local simp] Pp.eta Pp.cold Pp.mapM Pp.mapMc Pp.view Pp.viewc Pp.hotR Pp.ren Pp.renc Pp.low Pp.tau Pp.tauc Pp.bare Pp.flat Pp.flat1 Pp.mapMt Pp.mapMd Pp.coldt Pp.coldd Pp.hotRt Pp.hotRd
attribute [local simp] Ca.eta Ca.dec_row Ca.dec_hrow Ca.cold Ca.hcold Ca.mapM Ca.mapMc Ca.hmapM Ca.hmapMc Ca.view Ca.viewc Ca.hview Ca.hviewc Ca.hotR Ca.ren Ca.renc Ca.low Ca.hlow
theorem mid_shr {i j : Nat} (h : i + j ≤ 4294967296) : IntKind.i64.wrap (ishr .u64 (IntKind.u64.wrap ((i : Int) + j)) 1) = (((i + j) / 2 : Nat) : Int) := by
  have h1 : IntKind.u64.wrap ((i : Int) + j) = (i : Int) + j := by simp [IntKind.wrap, IntKind.bits, IntKind.signed]; omega
  rw [h1]
  have h2 : ishr .u64 ((i : Int) + j) 1 = ((i : Int) + j) / 2 := by
    simp only [ishr, IntKind.bits]
    rw [show (2 : Int) ^ (min (1 : Int).toNat 64) = 2 by decide, Int.fdiv_eq_ediv_of_nonneg _ (by decide)]
  rw [h2, w64 (by omega) (by omega)]
  omega
theorem nmOrd : (Try.f35.name = "runtime.NumGoroutine") = False := eq_false (beq_eq_false_iff_ne.1 fxFm35)
theorem bs_pure : PureOk Try.prog 59 (argM (cSl rPp) fun l => argM (cAgg rPp) fun p => argM (cFn 35 rNil) fun f => finM (if l.length ≤ 64 ∧ l.Pairwise LtK then some (.v (.tuple #[.int .i64 (lowG l p.file p.n), .bool (hasG l p.file p.n)])) else none)) := by
  refine pure3 Try.func59 rfl ?_
  rintro l p f r hr
  by_cases hc : l.length ≤ 64 ∧ l.Pairwise LtK
  case neg => rw [if_neg hc] at hr; cases hr
  rw [if_pos hc] at hr
  simp only [Option.some.injEq] at hr
  subst hr
  refine body_gen (noOrc_ok.withP order_pure) fxMix (by kernel_rfl) (by simp [Try.ntmps59]) ?_
  intro C cP cI cN cD cF cA
  have cp0 := orcP order_pure (C := C) (by rw [cP]; rfl)
  replace cI : C.inl = fun _ => false := cI
  replace cD : C.dyn = fun _ => [] := cD
  clear cP cN cF cA
  obtain ⟨hlen, hs⟩ := hc
  have hle := lowG_le l p.file p.n
  have hlow := lowG_iff (f := p.file) (n := p.n) hs
  simp [Try.ntmps59, Try.results59, cSl, cp0, cI, cD, rPp, Pp.row, ppDec]
  refine loop_inv (σ := {q : Nat × Nat // q.1 ≤ lowG l p.file p.n ∧ lowG l p.file p.n ≤ q.2 ∧ q.2 ≤ l.length}) (fun q => ([(0, .fsl false 20 (l.map Pp.row)), (2, .fn 35 []), (4, .ptr 0 20 0 0), (8, .v (.int .i64 l.length)), (9, .v (.int .i64 q.val.1)), (10, .v (.int .i64 q.val.2))], [some (20, [p.row])])) (fun q => q.val.2 - q.val.1) ⟨(0, l.length), by omega, by omega, by omega⟩ (by simp [Pp.row]) ?_
  rintro ⟨⟨i, j⟩, h1, h2, h3⟩
  simp only at h1 h2 h3
  by_cases q : i < j
  · have hm : (i + j) / 2 < l.length := by omega
    have hlo := hlow ((i + j) / 2) hm
    have w1 : IntKind.i64.wrap ((i : Int) + j) = (i : Int) + j := by rw [w64 (by omega) (by omega)]
    have w2 := mid_shr (i := i) (j := j) (by omega)
    have w3 : IntKind.i64.wrap ((((i + j) / 2 : Nat) : Int) + 1) = (((i + j) / 2 + 1 : Nat) : Int) := by rw [w64 (by omega) (by omega)]; simp
    have w4 : 0 ≤ ((((i + j) / 2 : Nat)) : Int) := by omega
    have w5 : ((((i + j) / 2 : Nat)) : Int) < l.length := by omega
    generalize hmid : (i + j) / 2 = m at *
    by_cases q2 : ordK l[m] p.file p.n < 0
    · simp [Try.ntmps59, Try.results59, cSl, cp0, cI, cD, rPp, Pp.row, ppDec, q, w1, w2, w3, w4, w5, hm, q2, nmOrd]
      exact ⟨m + 1, j, by omega, by simp, ⟨by omega, by omega, by omega⟩, rfl⟩
    · simp [Try.ntmps59, Try.results59, cSl, cp0, cI, cD, rPp, Pp.row, ppDec, q, w1, w2, w3, w4, w5, hm, q2, nmOrd]
      exact ⟨i, m, by omega, rfl, ⟨by omega, by omega, by omega⟩, rfl⟩
  · have e : i = j := by omega
    subst e
    have e2 : i = lowG l p.file p.n := by omega
    subst e2
    by_cases q2 : lowG l p.file p.n < l.length
    · simp [Try.ntmps59, Try.results59, cSl, cp0, cI, cD, rPp, Pp.row, ppDec, q, q2, hasG, nmOrd]
      first | done | rfl | (rw [Bool.eq_iff_iff]; simp)
    · simp [Try.ntmps59, Try.results59, cSl, cp0, cI, cD, rPp, Pp.row, ppDec, q, q2, hasG, nmOrd]
def atE (c : Ca) (f n : Int) : AVal := if caChk c f n = 0 then .v (.tuple #[.int .i64 (lowG c.pages f n), .bool (hasG c.pages f n), .int .i64 0]) else .v (.tuple #[.int .i64 0, .bool false, .int .i64 (caChk c f n)])
theorem at_pure : PureOk Try.prog 42 (argM (cAgg rCa) fun c => argM (cInt .i64) fun f => argM (cInt .i64) fun n => finM (some (atE c f n))) := by
  refine pure3 Try.func42 rfl ?_
  rintro c f n r hr
  simp only [Option.some.injEq] at hr
  subst hr
  refine body_gen (((noOrc_ok.withP caCheck_pure).withP right_pure).withP bs_pure) fxMix (by kernel_rfl) (by simp [Try.ntmps42]) ?_
  intro C cP cI cN cD cF cA
  have cp0 := orcP caCheck_pure (C := C) (by rw [cP]; rfl)
  have cp1 := orcP right_pure (C := C) (by rw [cP]; rfl)
  have cp2 := orcP bs_pure (C := C) (by rw [cP]; rfl)
  replace cI : C.inl = fun _ => false := cI
  replace cD : C.dyn = fun _ => [] := cD
  clear cP cN cF cA
  unfold atE caChk
  by_cases h0 : caCheck c = 0
  · have hg := caCheck_iff.1 h0
    have hc1 : (c.pages.length ≤ 64 ∧ c.pages.Pairwise LtK) = True := eq_true ⟨hg.len, hg.sorted⟩
    obtain ⟨l, T⟩ := c
    by_cases h1 : rightP f n = true
    · simp [Try.ntmps42, Try.results42, cSl, cp0, cp1, cp2, cI, cD, rCa, caDec, Ca.row, rPp, ppDec, h0, h1, hc1]
      done
    · simp only [Bool.not_eq_true] at h1
      simp [Try.ntmps42, Try.results42, cSl, cp0, cp1, cp2, cI, cD, rCa, caDec, Ca.row, rPp, ppDec, h0, h1]
      done
  · obtain ⟨l, T⟩ := c
    simp [Try.ntmps42, Try.results42, cSl, cp0, cp1, cp2, cI, cD, rCa, caDec, Ca.row, rPp, ppDec, h0]
    done
def caThere (c : Ca) (f n : Int) : Int := if caChk c f n = 0 then (if hasG c.pages f n = true then 0 else 4) else caChk c f n
def lowT (c : Ca) (f n : Int) : Int := if caChk c f n = 0 then (lowG c.pages f n : Int) else 0
theorem there_pure : PureOk Try.prog 38 (argM (cAgg rCa) fun c => argM (cInt .i64) fun f => argM (cInt .i64) fun n => finM (some (.v (.tuple #[.int .i64 (lowT c f n), .int .i64 (caThere c f n)])))) := by
  refine pure3 Try.func38 rfl ?_
  rintro c f n r hr
  simp only [Option.some.injEq] at hr
  subst hr
  refine body_gen (noOrc_ok.withP at_pure) fxMix (by kernel_rfl) (by simp [Try.ntmps38]) ?_
  intro C cP cI cN cD cF cA
  have cp0 := orcP at_pure (C := C) (by rw [cP]; rfl)
  replace cI : C.inl = fun _ => false := cI
  replace cD : C.dyn = fun _ => [] := cD
  clear cP cN cF cA
  unfold caThere lowT
  by_cases h0 : caChk c f n = 0
  · cases h1 : hasG c.pages f n <;> obtain ⟨l, T⟩ := c <;> simp only at h1 <;> simp [Try.ntmps38, Try.results38, cSl, cp0, cI, cD, rCa, caDec, Ca.row, rPp, ppDec, atE, h0, h1]
  · obtain ⟨l, T⟩ := c
    simp [Try.ntmps38, Try.results38, cSl, cp0, cI, cD, rCa, caDec, Ca.row, rPp, ppDec, atE, h0]
theorem caThere_iff {c : Ca} {f n : Int} : caThere c f n = 0 ↔ Good c ∧ rightP f n = true ∧ hasG c.pages f n = true := by
  unfold caThere
  split
  · rename_i h
    have := caChk_iff.1 h
    split
    · rename_i h2; simp [this.1, this.2, h2]
    · rename_i h2; simp [h2]
  · rename_i h
    simp only [h, false_iff]
    rintro ⟨h1, h2, _⟩
    exact h (caChk_iff.2 ⟨h1, h2⟩)
def caGet (c : Ca) (f n : Int) : Pg := if caThere c f n = 0 then ((c.pages[lowG c.pages f n]?).getD ⟨0, 0, 0, 0, noPg⟩).data else noPg
def pgV (d : Pg) : Value := .agg #[.int .u8 d.b0, .int .u8 d.b1, .int .u8 d.b2, .int .u8 d.b3, .int .u8 d.b4, .int .u8 d.b5, .int .u8 d.b6, .int .u8 d.b7, .int .u8 d.b8, .int .u8 d.b9, .int .u8 d.b10, .int .u8 d.b11, .int .u8 d.b12, .int .u8 d.b13, .int .u8 d.b14, .int .u8 d.b15]
theorem get_pure : PureOk Try.prog 18 (argM (cAgg rCa) fun c => argM (cInt .i64) fun f => argM (cInt .i64) fun n => finM (some (.v (.tuple #[pgV (caGet c f n), .int .i64 (caThere c f n)])))) := by
  refine pure3 Try.func18 rfl ?_
  rintro c f n r hr
  simp only [Option.some.injEq] at hr
  subst hr
  refine body_gen (noOrc_ok.withP there_pure) fxMix (by kernel_rfl) (by simp [Try.ntmps18]) ?_
  intro C cP cI cN cD cF cA
  have cp0 := orcP there_pure (C := C) (by rw [cP]; rfl)
  replace cI : C.inl = fun _ => false := cI
  replace cD : C.dyn = fun _ => [] := cD
  clear cP cN cF cA
  unfold caGet
  by_cases h0 : caThere c f n = 0
  · obtain ⟨g, hr, hh⟩ := caThere_iff.1 h0
    obtain ⟨hi, hf, hn⟩ := hasG_iff.1 hh
    have hlt : lowT c f n = (lowG c.pages f n : Int) := by unfold lowT; rw [if_pos (caChk_iff.2 ⟨g, hr⟩)]
    obtain ⟨l, T⟩ := c
    simp only at hi hlt
    generalize lowG l f n = k at hi hlt ⊢
    simp [Try.ntmps18, Try.results18, cSl, cp0, cI, cD, rCa, caDec, Ca.row, rPp, Pp.row, ppDec, h0, hlt, hi, pgV]
  · obtain ⟨l, T⟩ := c
    simp [Try.ntmps18, Try.results18, cSl, cp0, cI, cD, rCa, caDec, Ca.row, rPp, Pp.row, ppDec, h0, pgV, noPg]
end Go.Proofs.Ytdhkhnegnlmgiaa
