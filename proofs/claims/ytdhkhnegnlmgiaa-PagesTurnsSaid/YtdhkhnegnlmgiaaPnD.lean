/- ringkeep2: PagesHeld, PagesTurns. ringkeep2: PagesTurns. ringkeep2: PagesSets. ringkeep2: PagesBack. -/
import Derived.Test.YtdhkhnegnlmgiaaPnC
import Derived.Test.YtdhkhnegnlmgiaaAiZi
namespace Go.Proofs.Ytdhkhnegnlmgiaa
open Go.AI
set_option maxHeartbeats 2000000
set_option maxRecDepth 100000
set_option linter.unusedSimpArgs false
set_option linter.unusedVariables false
attribute [local simp] wpA wpX RunA RunD runF foot footP footB idsA bare apart runL step1 gsel_f gsel_t gsel_s res_same res_and1 res_and2 res_and3 res_and4 res_and5 res_and6 res_false res_true res_v res_ptr res_fptr res_osl res_xsl soft aAppendZ aCap ovlI ovlJ res_fsl res_esl res_agg res_tup res_fn res_junk res_anyb aPick hk imp_left iteV dstOk guardOk astep astepE AI.ev AI.look AI.put envOf aBox cellsOf allOne allOneA oneA Value.oneCell' Value.cells newObj' aFieldAddr aLoad obj readAt thenA blockA condA retA resA tupA view hot hotC hotR depthV cAgg cInt cBool mkAgg allV aAlloc aBuild fillA writeAt aStore isAggA aField idx aIndexAddr aIndex bnd aSlice aExtract aLen aBuiltin aCall isStatic eqAgg eqTy eqC ev_add ev_sub ev_mul ev_quo ev_rem ev_and ev_or ev_xor ev_andNot ev_shl ev_shr ev_eql ev_neq ev_lss ev_leq ev_gtr ev_geq ev_agg w64 wu32 wu8 ev_not ev_neg Cod.plain RCod.plain argM finM cold coldC coldR goInt intDec boolDec aggDec Weaker heapW lowA lowC Again slDec undef aBuildSlice setRows aAppend rowsOf aMakeSlice aClear aCopy softer_self softer_nil valsOf ev_min2 ev_max2 hotR_set hotR_append take_map_set irow_cold irow_mapM irow_mapMc irow_view irow_viewc irow_hotR irow_ren irow_renc irow_low WeakT heapT thOf ren renC AgainT NextF NextT fnDec cFn rNil selfLt natLt0 natLt1 getLastMap frame0 frame1 own0 own1 argG finG tau tauI tauO tauC bareA bareC bareH irow_tau irow_tauc irow_bare irow_flat irow_bareR ownA_nil ownT_nil ownA_c ownT_c ownA_s ownT_s takeMapLen footC plainA noId noIdC cloneF frame0F frame1F insertF replaceI replaceF cellDec rCell fpDec cFp rTwo deleteF allV_oA oneA_oA res_oA RunR RunE runFT footAt hotR_cat tmodN fxSz2 fxBy2 fxAg2 fxZe2 fxSl2 fxAr2 fxPl2 fxSz3 fxBy3 fxAg3 fxZe3 fxSl3 fxAr3 fxPl3 fxSz4 fxBy4 fxAg4 fxZe4 fxSl4 fxAr4 fxPl4 fxSz5 fxBy5 fxAg5 fxZe5 fxSl5 fxAr5 fxPl5 fxSz9 fxBy9 fxAg9 fxZe9 fxSl9 fxAr9 fxPl9 fxSz12 fxBy12 fxAg12 fxZe12 fxSl12 fxAr12 fxPl12 fxSz13 fxBy13 fxAg13 fxZe13 fxSl13 fxAr13 fxFi13x0 fxFi13x1 fxPl13 fxSz21 fxBy21 fxAg21 fxZe21 fxSl21 fxAr21 fxPl21 fxSz22 fxBy22 fxAg22 fxZe22 fxSl22 fxAr22 fxPl22 fxSz23 fxBy23 fxAg23 fxZe23 fxSl23 fxAr23 fxFi23x0 fxFi23x1 fxPl23 fxSz24 fxBy24 fxAg24 fxZe24 fxSl24 fxAr24 fxFi24x0 fxFi24x1 fxPl24 fxSz26 fxBy26 fxAg26 fxZe26 fxSl26 fxAr26 fxPl26 fxSz28 fxBy28 fxAg28 fxZe28 fxSl28 fxAr28 fxPl28 fxSz29 fxBy29 fxAg29 fxZe29 fxSl29 fxAr29 fxFi29x0 fxFi29x1 fxFi29x2 fxFi29x3 fxFi29x4 fxPl29 fxSz30 fxBy30 fxAg30 fxZe30 fxSl30 fxAr30 fxFi30x0 fxFi30x1 fxFi30x2 fxFi30x3 fxFi30x4 fxPl30 fxSz48 fxBy48 fxAg48 fxZe48 fxSl48 fxAr48 fxPl48 fxSz49 fxBy49 fxAg49 fxZe49 fxSl49 fxAr49 fxPl49 fxSz53 fxBy53 fxAg53 fxZe53 fxSl53 fxAr53 fxFi53x0 fxFi53x1 fxFi53x2 fxFi53x3 fxPl53 fxSz54 fxBy54 fxAg54 fxZe54 fxSl54 fxAr54 fxFi54x0 fxFi54x1 fxFi54x2 fxFi54x3 fxPl54 fxSz59 fxBy59 fxAg59 fxZe59 fxSl59 fxAr59 fxPl59 fxSz63 fxBy63 fxAg63 fxZe63 fxSl63 fxAr63 fxPl63 fxSz68 fxBy68 fxAg68 fxZe68 fxSl68 fxAr68 fxPl68 fxSz75 fxBy75 fxAg75 fxZe75 fxSl75 fxAr75 fxPl75 fxSz90 fxBy90 fxAg90 fxZe90 fxSl90 fxAr90 fxFi90x0 fxFi90x1 fxFi90x2 fxPl90 fxSz91 fxBy91 fxAg91 fxZe91 fxSl91 fxAr91 fxFi91x0 fxFi91x1 fxFi91x2 fxPl91 fxSz96 fxBy96 fxAg96 fxZe96 fxSl96 fxAr96 fxPl96 fxSz108 fxBy108 fxAg108 fxZe108 fxSl108 fxAr108 fxPl108 fxSz115 fxBy115 fxAg115 fxZe115 fxSl115 fxAr115 fxPl115 fxSz117 fxBy117 fxAg117 fxZe117 fxSl117 fxAr117 fxPl117 fxSz124 fxBy124 fxAg124 fxZe124 fxSl124 fxAr124 fxPl124 fxSz128 fxBy128 fxAg128 fxZe128 fxSl128 fxAr128 fxPl128 fxSz133 fxBy133 fxAg133 fxZe133 fxSl133 fxAr133 fxPl133 fxSz140 fxBy140 fxAg140 fxZe140 fxSl140 fxAr140 fxPl140 fxSz141 fxBy141 fxAg141 fxZe141 fxSl141 fxAr141 fxFi141x0 fxPl141 fxSz147 fxBy147 fxAg147 fxZe147 fxSl147 fxAr147 fxPl147 fxSz152 fxBy152 fxAg152 fxZe152 fxSl152 fxAr152 fxPl152 fxEq28 fxEq30 fxEq54 fxEq91 fxCv2x2 fxCv2x3 fxCv2x5 fxCv2x12 fxCv2x21 fxCv2x26 fxCv2x96 fxCv2x108 fxCv2x115 fxCv2x117 fxCv2x124 fxCv3x2 fxCv3x3 fxCv3x5 fxCv3x12 fxCv3x21 fxCv3x26 fxCv3x96 fxCv3x108 fxCv3x115 fxCv3x117 fxCv3x124 fxCv5x2 fxCv5x3 fxCv5x5 fxCv5x12 fxCv5x21 fxCv5x26 fxCv5x96 fxCv5x108 fxCv5x115 fxCv5x117 fxCv5x124 fxCv12x2 fxCv12x3 fxCv12x5 fxCv12x12 fxCv12x21 fxCv12x26 fxCv12x96 fxCv12x108 fxCv12x115 fxCv12x117 fxCv12x124 fxCv21x2 fxCv21x3 fxCv21x5 fxCv21x12 fxCv21x21 fxCv21x26 fxCv21x96 fxCv21x108 fxCv21x115 fxCv21x117 fxCv21x124 fxCv26x2 fxCv26x3 fxCv26x5 fxCv26x12 fxCv26x21 fxCv26x26 fxCv26x96 fxCv26x108 fxCv26x115 fxCv26x117 fxCv26x124 fxCv96x2 fxCv96x3 fxCv96x5 fxCv96x12 fxCv96x21 fxCv96x26 fxCv96x96 fxCv96x108 fxCv96x115 fxCv96x117 fxCv96x124 fxCv108x2 fxCv108x3 fxCv108x5 fxCv108x12 fxCv108x21 fxCv108x26 fxCv108x96 fxCv108x108 fxCv108x115 fxCv108x117 fxCv108x124 fxCv115x2 fxCv115x3 fxCv115x5 fxCv115x12 fxCv115x21 fxCv115x26 fxCv115x96 fxCv115x108 fxCv115x115 fxCv115x117 fxCv115x124 fxCv117x2 fxCv117x3 fxCv117x5 fxCv117x12 fxCv117x21 fxCv117x26 fxCv117x96 fxCv117x108 fxCv117x115 fxCv117x117 fxCv117x124 fxCv124x2 fxCv124x3 fxCv124x5 fxCv124x12 fxCv124x21 fxCv124x26 fxCv124x96 fxCv124x108 fxCv124x115 fxCv124x117 fxCv124x124 fxEb4 fxNb4 fxLt9 fxLn22 fxNe22 fxNn22 fxOe22 fxOn22 fxXe22 fxXn22 fxLn48 fxNe48 fxNn48 fxOe48 fxOn48 fxXe48 fxXn48 fxLn49 fxNe49 fxNn49 fxOe49 fxOn49 fxXe49 fxXn49 fxLn59 fxNe59 fxNn59 fxOe59 fxOn59 fxXe59 fxXn59 fxLn63 fxNe63 fxNn63 fxOe63 fxOn63 fxXe63 fxXn63 fxLn75 fxNe75 fxNn75 fxOe75 fxOn75 fxXe75 fxXn75 fxFn3 fxFm3 fxFb3 fxFi3 fxFj3 fxFn4 fxFm4 fxFb4 fxFi4 fxFj4 fxFn5 fxFm5 fxFb5 fxFi5 fxFj5 fxFn6 fxFm6 fxFb6 fxFi6 fxFj6 fxFn7 fxFm7 fxFb7 fxFi7 fxFj7 fxFn8 fxFm8 fxFb8 fxFi8 fxFj8 fxFn9 fxFm9 fxFb9 fxFi9 fxFj9 fxFn10 fxFm10 fxFb10 fxFi10 fxFj10 fxFn11 fxFm11 fxFb11 fxFi11 fxFj11 fxFn12 fxFm12 fxFb12 fxFi12 fxFj12 fxFn13 fxFm13 fxFb13 fxFi13 fxFj13 fxFn14 fxFm14 fxFb14 fxFi14 fxFj14 fxFn15 fxFm15 fxFb15 fxFi15 fxFj15 fxFn16 fxFm16 fxFb16 fxFi16 fxFj16 fxFn17 fxFm17 fxFb17 fxFi17 fxFj17 fxFn18 fxFm18 fxFb18 fxFi18 fxFj18 fxFn19 fxFm19 fxFb19 fxFi19 fxFj19 fxFn20 fxFm20 fxFb20 fxFi20 fxFj20 fxFn21 fxFm21 fxFb21 fxFi21 fxFj21 fxFn22 fxFm22 fxFb22 fxFi22 fxFj22 fxFn23 fxFm23 fxFb23 fxFi23 fxFj23 fxFn24 fxFm24 fxFb24 fxFi24 fxFj24 fxFn25 fxFm25 fxFb25 fxFi25 fxFj25 fxFn26 fxFm26 fxFb26 fxFi26 fxFj26 fxFn27 fxFm27 fxFb27 fxFi27 fxFj27 fxFn28 fxFm28 fxFb28 fxFi28 fxFj28 fxFn29 fxFm29 fxFb29 fxFi29 fxFj29 fxFn30 fxFm30 fxFb30 fxFi30 fxFj30 fxFn31 fxFm31 fxFb31 fxFi31 fxFj31 fxFn32 fxFm32 fxFb32 fxFi32 fxFj32 fxFn33 fxFm33 fxFb33 fxFi33 fxFj33 fxFn34 fxFm34 fxFb34 fxFi34 fxFj34 fxFn35 fxFm35 fxFb35 fxFi35 fxFj35 fxFn36 fxFm36 fxFb36 fxFi36 fxFj36 fxFn37 fxFm37 fxFb37 fxFi37 fxFj37 fxFn38 fxFm38 fxFb38 fxFi38 fxFj38 fxFn39 fxFm39 fxFb39 fxFi39 fxFj39 fxFn40 fxFm40 fxFb40 fxFi40 fxFj40 fxFn41 fxFm41 fxFb41 fxFi41 fxFj41 fxFn42 fxFm42 fxFb42 fxFi42 fxFj42 fxFn43 fxFm43 fxFb43 fxFi43 fxFj43 fxFn44 fxFm44 fxFb44 fxFi44 fxFj44 fxFn45 fxFm45 fxFb45 fxFi45 fxFj45 fxFn46 fxFm46 fxFb46 fxFi46 fxFj46 fxFn47 fxFm47 fxFb47 fxFi47 fxFj47 fxFn48 fxFm48 fxFb48 fxFi48 fxFj48 fxFn49 fxFm49 fxFb49 fxFi49 fxFj49 fxFn50 fxFm50 fxFb50 fxFi50 fxFj50 fxFn51 fxFm51 fxFb51 fxFi51 fxFj51 fxFn52 fxFm52 fxFb52 fxFi52 fxFj52 fxFn53 fxFm53 fxFb53 fxFi53 fxFj53 fxFn54 fxFm54 fxFb54 fxFi54 fxFj54 fxFn55 fxFm55 fxFb55 fxFi55 fxFj55 fxFn56 fxFm56 fxFb56 fxFi56 fxFj56 fxFn57 fxFm57 fxFb57 fxFi57 fxFj57 fxFn58 fxFm58 fxFb58 fxFi58 fxFj58 fxFn59 fxFm59 fxFb59 fxFi59 fxFj59 fxFn60 fxFm60 fxFn61 fxFm61 fxFb61 fxFi61 fxFj61 fxFn62 fxFm62 fxFb62 fxFi62 fxFj62 fxFn63 fxFm63 fxFb63 fxFi63 fxFj63 fxFn64 fxFm64 fxFb64 fxFi64 fxFj64 fxFn65 fxFm65 fxFb65 fxFi65 fxFj65 fxFn66 fxFm66 fxFb66 fxFi66 fxFj66 fxFn67 fxFm67 fxFb67 fxFi67 fxFj67 fxFn68 fxFm68 fxFb68 fxFi68 fxFj68 fxFn69 fxFm69 fxFb69 fxFi69 fxFj69 fxFn70 fxFm70 fxFb70 fxFi70 fxFj70 fxFn71 fxFm71 fxFb71 fxFi71 fxFj71 fxFn72 fxFm72 fxFb72 fxFi72 fxFj72 fxFn73 fxFm73 fxFb73 fxFi73 fxFj73 fxFn74 fxFm74 fxFb74 fxFi74 fxFj74 fxFn75 fxFm75 fxFb75 fxFi75 fxFj75 fxFn76 fxFm76 fxFb76 fxFi76 fxFj76 fxFn77 fxFm77 fxFb77 fxFi77 fxFj77 fxFn78 fxFm78 fxFb78 fxFi78 fxFj78 fxFn79 fxFm79 fxFb79 fxFi79 fxFj79 fxFn80 fxFm80 fxFb80 fxFi80 fxFj80 fxFn81 fxFm81 fxFb81 fxFi81 fxFj81 fxFn82 fxFm82 fxFb82 fxFi82 fxFj82 fxFn83 fxFm83 fxFb83 fxFi83 fxFj83 fxFn84 fxFm84 fxFb84 fxFi84 fxFj84 fxFn85 fxFm85 fxFb85 fxFi85 fxFj85 fxFn86 fxFm86 fxFb86 fxFi86 fxFj86 fxFn87 fxFm87 fxFb87 fxFi87 fxFj87 fxFn88 fxFm88 fxFb88 fxFi88 fxFj88 fxFn89 fxFm89 fxFb89 fxFi89 fxFj89 fxFn90 fxFm90 fxFb90 fxFi90 fxFj90 fxFn91 fxFm91 fxFb91 fxFi91 fxFj91 fxFn92 fxFm92 fxFb92 fxFi92 fxFj92 fxFn93 fxFm93 fxFb93 fxFi93 fxFj93 fxFn94 fxFm94 fxFb94 fxFi94 fxFj94 fxFn95 fxFm95 fxFb95 fxFi95 fxFj95 fxFn96 fxFm96 fxFb96 fxFi96 fxFj96 fxFn97 fxFm97 fxFb97 fxFi97 fxFj97 fxFn98 fxFm98 fxFb98 fxFi98 fxFj98 fxFn99 fxFm99 fxFb99 fxFi99 fxFj99 fxFn100 fxFm100 fxFb100 fxFi100 fxFj100 fxFn101 fxFm101 fxFb101 fxFi101 fxFj101
attribute [local simp] Pg.eta Pg.cold Pg.mapM Pg.mapMc Pg.view Pg.viewc Pg.hotR Pg.ren Pg.renc Pg.low Pg.tau Pg.tauc Pg.bare Pg.flat Pg.flat1 Pg.mapMt Pg.mapMd Pg.coldt Pg.coldd Pg.hotRt Pg.hotRd
attribute [local simp] Pp.eta Pp.cold Pp.mapM Pp.mapMc Pp.view Pp.viewc Pp.hotR Pp.ren Pp.renc Pp.low Pp.tau Pp.tauc Pp.bare Pp.flat Pp.flat1 Pp.mapMt Pp.mapMd Pp.coldt Pp.coldd Pp.hotRt Pp.hotRd
attribute [local simp] Ca.eta Ca.dec_row Ca.dec_hrow Ca.cold Ca.hcold Ca.mapM Ca.mapMc Ca.hmapM Ca.hmapMc Ca.view Ca.viewc Ca.hview Ca.hviewc Ca.hotR Ca.ren Ca.renc Ca.low Ca.hlow
theorem pg_eq (a b : Pg) : a = b ↔ (a.b0 = b.b0 ∧ a.b1 = b.b1 ∧ a.b2 = b.b2 ∧ a.b3 = b.b3 ∧ a.b4 = b.b4 ∧ a.b5 = b.b5 ∧ a.b6 = b.b6 ∧ a.b7 = b.b7 ∧ a.b8 = b.b8 ∧ a.b9 = b.b9 ∧ a.b10 = b.b10 ∧ a.b11 = b.b11 ∧ a.b12 = b.b12 ∧ a.b13 = b.b13 ∧ a.b14 = b.b14 ∧ a.b15 = b.b15) := by cases a; cases b; simp
theorem pp_eq (a b : Pp) : a = b ↔ (a.file = b.file ∧ a.n = b.n ∧ a.maps = b.maps ∧ a.dirty = b.dirty ∧ a.data.b0 = b.data.b0 ∧ a.data.b1 = b.data.b1 ∧ a.data.b2 = b.data.b2 ∧ a.data.b3 = b.data.b3 ∧ a.data.b4 = b.data.b4 ∧ a.data.b5 = b.data.b5 ∧ a.data.b6 = b.data.b6 ∧ a.data.b7 = b.data.b7 ∧ a.data.b8 = b.data.b8 ∧ a.data.b9 = b.data.b9 ∧ a.data.b10 = b.data.b10 ∧ a.data.b11 = b.data.b11 ∧ a.data.b12 = b.data.b12 ∧ a.data.b13 = b.data.b13 ∧ a.data.b14 = b.data.b14 ∧ a.data.b15 = b.data.b15) := by cases a; cases b; simp [pg_eq]
theorem eqPp_pure : PureOk Try.prog 22 (argM (cSl rPp) fun l => argM (cSl rPp) fun m => finM (if l.length ≤ 4294967296 then some (.v (.bool (decide (l = m)))) else none)) := by
  refine pure2 Try.func22 rfl ?_
  rintro l m r hr
  by_cases hc : l.length ≤ 4294967296
  case neg => rw [if_neg hc] at hr; cases hr
  rw [if_pos hc] at hr
  simp only [Option.some.injEq] at hr
  subst hr
  refine body_gen noOrc_ok fxMix (by kernel_rfl) (by simp [Try.ntmps22]) ?_
  intro C cP cI cN cD cF cA
  replace cI : C.inl = fun _ => false := cI
  replace cD : C.dyn = fun _ => [] := cD
  clear cP cN cF cA
  simp [Try.ntmps22, Try.results22, cSl, cI, cD, rPp, Pp.row, ppDec]
  split
  · rename_i hn
    have hn : l.length = m.length := by omega
    refine loop_for l.length (fun k (_ : Unit) => ([(0, .fsl false 20 (l.map Pp.row)), (1, .fsl false 20 (m.map Pp.row)), (12, .v (.int .i64 l.length)), (13, .v (.int .i64 k))], [])) (fun k _ => l.drop k = m.drop k ↔ l = m) () hc (by simp) (by simp) ?_ ?_
    · intro k _ hk hall hw
      have hk3 : k < m.length := by omega
      rw [List.drop_eq_getElem_cons hk, List.drop_eq_getElem_cons hk3, List.cons.injEq] at hall
      have he := pp_eq l[k] m[k]
      by_cases q2 : l[k] = m[k]
      · have q3 := he.1 q2
        clear he
        simp only [q2, true_and] at hall
        simp [Try.ntmps22, Try.results22, cSl, cI, cD, hk, hk3, hw, rPp, Pp.row, ppDec, q3]
        exact hall
      · have hne : ¬ l = m := fun h => q2 (hall.2 h).1
        simp [Try.ntmps22, Try.results22, cSl, cI, cD, hk, hk3, hw, rPp, Pp.row, ppDec]
        split
        · exact hne
        · rename_i q
          exact absurd (he.2 (by simp_all)) q2
    · intro _ hall
      simp [hn] at hall
      simp [Try.ntmps22, Try.results22, cSl, cI, cD, hall]
  · rename_i hn
    rintro rfl
    exact hn rfl
theorem caches_pure : PureOk Try.prog 12 ( finM (some (.v (.bool true)))) := by
  refine pure0 Try.func12 rfl ?_
  rintro  r hr
  simp only [Option.some.injEq] at hr
  subst hr
  refine body_gen (noOrc_ok.withP bring_pure) fxMix (by kernel_rfl) (by simp [Try.ntmps12]) ?_
  intro C cP cI cN cD cF cA
  have cp0 := orcP bring_pure (C := C) (by rw [cP]; rfl)
  replace cI : C.inl = fun _ => false := cI
  replace cD : C.dyn = fun _ => [] := cD
  clear cP cN cF cA
  have hB : caBring ⟨[], 1⟩ 1 2 ⟨5, 0, 0, 0, 0, 0, 0, 0, 0, 0, 0, 0, 0, 0, 0, 0⟩ = .ok ⟨[⟨1, 2, 0, 0, ⟨5, 0, 0, 0, 0, 0, 0, 0, 0, 0, 0, 0, 0, 0, 0, 0⟩⟩], 1⟩ := rfl
  simp [Try.ntmps12, Try.results12, cSl, cp0, cI, cD, rCa, caDec, Ca.row, rPp, Pp.row, ppDec, rPg, Pg.row, pgDec, hB, caE, caV]
  done
def rCapK : RCod (Int × Int) := rTwo (cFp (rI .i64)) (cFp (rI .i64))
theorem held1_pure : PureOk Try.prog 17 (argM (cAgg rPp) fun x => argM (cFp (rI .i64)) fun a => argM (cFp (rI .i64)) fun b => finM (some (.v (.bool (keyB a b x))))) := by
  refine pure3 Try.func17 rfl ?_
  rintro x a b r hr
  simp only [Option.some.injEq] at hr
  subst hr
  refine body_gen noOrc_ok fxMix (by kernel_rfl) (by simp [Try.ntmps17]) ?_
  intro C cP cI cN cD cF cA
  replace cI : C.inl = fun _ => false := cI
  replace cD : C.dyn = fun _ => [] := cD
  clear cP cN cF cA
  unfold keyB
  by_cases h1 : x.file = a <;> by_cases h2 : x.n = b <;> simp [Try.ntmps17, Try.results17, cSl, cI, cD, rPp, Pp.row, ppDec, rI, irow, h1, h2]
theorem heldI_pure : PureOk Try.prog 16 (argM (cSl rPp) fun l => argM (cFn 17 rCapK) fun cp => finM (if l.length ≤ 9223372036854775807 then some (.v (.int .i64 (idxP ((fun x => keyB cp.1 cp.2 x)) l))) else none)) := by
  refine pure2 Try.func16 rfl ?_
  rintro l cp r hr
  by_cases hc : l.length ≤ 9223372036854775807
  case neg => rw [if_neg hc] at hr; cases hr
  rw [if_pos hc] at hr
  simp only [Option.some.injEq] at hr
  subst hr
  refine body_gen (noOrc_ok.withP held1_pure) fxMix (by kernel_rfl) (by simp [Try.ntmps16]) ?_
  intro C cP cI cN cD cF cA
  have cp0 := orcP held1_pure (C := C) (by rw [cP]; rfl)
  replace cI : C.inl = fun _ => false := cI
  replace cD : C.dyn = fun _ => [] := cD
  clear cP cN cF cA
  simp [Try.ntmps16, Try.results16, cSl, cp0, cI, cD, rPp, Pp.row, ppDec, rCapK, rI, irow, irowDec]
  refine loop_forM l.length (fun k (_ : Unit) => ([(0, .fsl false 20 (l.map Pp.row)), (1, .fn 17 [.fptr (irow .i64 cp.1) 0, .fptr (irow .i64 cp.2) 0]), (7, .v (.int .i64 l.length)), (8, .v (.int .i64 k))], [])) (fun k _ => ((l.drop k).findIdx? ((fun x => keyB cp.1 cp.2 x))).map (· + k) = l.findIdx? ((fun x => keyB cp.1 cp.2 x))) () hc (by simp) (by simp [rPp, Pp.row, ppDec, rCapK, rI, irow, irowDec]) ?_ ?_
  · intro k _ hk hall hw
    by_cases q : ((fun x => keyB cp.1 cp.2 x)) l[k] = true
    · rw [find_drop hk, if_pos q] at hall
      try simp at q
      simp [Try.ntmps16, Try.results16, cSl, cp0, cI, cD, hk, hw, rPp, Pp.row, ppDec, rCapK, rI, irow, irowDec, q, idxP, ← hall]
    · rw [find_drop hk, if_neg q] at hall
      try simp at q
      simp [Try.ntmps16, Try.results16, cSl, cp0, cI, cD, hk, hw, rPp, Pp.row, ppDec, rCapK, rI, irow, irowDec, q]
      simpa using hall
  · intro _ hall
    simp at hall
    simp [Try.ntmps16, Try.results16, cSl, cp0, cI, cD, idxP, ← hall]
theorem held_pure : PureOk Try.prog 4 (argM (cAgg rCa) fun c => argM (cInt .i64) fun f => argM (cInt .i64) fun n => finM (if c.pages.length ≤ 9223372036854775807 then some (.v (.bool true)) else none)) := by
  refine pure3 Try.func4 rfl ?_
  rintro c f n r hr
  by_cases hc : c.pages.length ≤ 9223372036854775807
  case neg => rw [if_neg hc] at hr; cases hr
  rw [if_pos hc] at hr
  simp only [Option.some.injEq] at hr
  subst hr
  refine body_gen (((((noOrc_ok.withP caches_pure).withP out_pure).withP get_pure).withP caCheck_pure).withP heldI_pure) fxMix (by kernel_rfl) (by simp [Try.ntmps4]) ?_
  intro C cP cI cN cD cF cA
  have cp0 := orcP caches_pure (C := C) (by rw [cP]; rfl)
  have cp1 := orcP out_pure (C := C) (by rw [cP]; rfl)
  have cp2 := orcP get_pure (C := C) (by rw [cP]; rfl)
  have cp3 := orcP caCheck_pure (C := C) (by rw [cP]; rfl)
  have cp4 := orcP heldI_pure (C := C) (by rw [cP]; rfl)
  replace cI : C.inl = fun _ => false := cI
  replace cD : C.dyn = fun _ => [] := cD
  clear cP cN cF cA
  by_cases h0 : caCheck c = 0
  case neg =>
    cases ho : caOut c f n with
    | ok x => exact absurd (caCheck_iff.2 (out_ok ho).1) h0
    | error e =>
      have he := out_err ho
      obtain ⟨l, T⟩ := c
      simp [Try.ntmps4, Try.results4, cSl, cp0, cp1, cp2, cp3, cp4, cI, cD, rCa, caDec, Ca.row, rPp, ppDec, rCapK, rI, irow, irowDec, h0, ho, he, hc, caE]
      done
  have g := caCheck_iff.1 h0
  by_cases hi : idxP (fun x => keyB f n x) c.pages < 0
  · have hno : ∀ p ∈ c.pages, keyB f n p = false := by
      intro p hp
      cases hk : keyB f n p with
      | false => rfl
      | true =>
        have := (idxP_iff (p := fun x => keyB f n x) (l := c.pages)).2 (List.any_eq_true.2 ⟨p, hp, hk⟩)
        omega
    have ht := held_none hno
    have ho : caOut c f n = .error (caThere c f n) := by unfold caOut; rw [if_neg ht]
    obtain ⟨l, T⟩ := c
    simp [Try.ntmps4, Try.results4, cSl, cp0, cp1, cp2, cp3, cp4, cI, cD, rCa, caDec, Ca.row, rPp, ppDec, rCapK, rI, irow, irowDec, h0, ho, ht, hi, hc, caE]
    done
  obtain ⟨i, hix, hil, hik, _⟩ := idxP_some hi
  obtain ⟨ht, hp⟩ := held_idx g hil hik
  by_cases hm : 0 < c.pages[i].maps ∨ 0 < c.pages[i].dirty
  · have ho : caOut c f n = .error 8 := by unfold caOut; rw [if_pos ht, hp, if_pos hm]
    obtain ⟨l, T⟩ := c
    simp only at hm hix hil hc
    by_cases hm1 : 0 < l[i].maps
    · simp [Try.ntmps4, Try.results4, cSl, cp0, cp1, cp2, cp3, cp4, cI, cD, rCa, caDec, Ca.row, rPp, Pp.row, ppDec, rCapK, rI, irow, irowDec, h0, ho, hix, hil, hm1, hc, caE]
      done
    · have hm2 := hm.resolve_left hm1
      simp [Try.ntmps4, Try.results4, cSl, cp0, cp1, cp2, cp3, cp4, cI, cD, rCa, caDec, Ca.row, rPp, Pp.row, ppDec, rCapK, rI, irow, irowDec, h0, ho, hix, hil, hm1, hm2, hc, caE]
      done
  · cases ho : caOut c f n with
    | error e =>
      unfold caOut at ho
      rw [if_pos ht, hp, if_neg hm] at ho
      cases ho
    | ok x =>
      obtain ⟨q1, q2, q3⟩ := out_gone ho
      have hm1 : ¬ 0 < c.pages[i].maps := fun h => hm (.inl h)
      have hm2 : ¬ 0 < c.pages[i].dirty := fun h => hm (.inr h)
      have hl64 := g.len
      obtain ⟨l, T⟩ := c
      obtain ⟨l', T'⟩ := x
      simp only at hm1 hm2 hix hil hc q3 hl64
      have hw : IntKind.i64.wrap ((l.length : Int) - 1) = (l.length : Int) - 1 := w64 (by omega) (by omega)
      have hle : (l'.length : Int) = (l.length : Int) - 1 := by omega
      simp [Try.ntmps4, Try.results4, cSl, cp0, cp1, cp2, cp3, cp4, cI, cD, rCa, caDec, Ca.row, rPp, Pp.row, ppDec, rCapK, rI, irow, irowDec, h0, ho, hix, hil, hm1, hm2, hc, caE, caV, q1, q2, hw, hle, pgV]
      done
end Go.Proofs.Ytdhkhnegnlmgiaa
namespace Go.Proofs.Ytdhkhnegnlmgiaa
open Go.AI
set_option maxHeartbeats 2000000
set_option maxRecDepth 100000
set_option linter.unusedSimpArgs false
set_option linter.unusedVariables false
attribute [local simp] wpA wpX RunA RunD runF foot footP footB idsA bare apart runL step1 gsel_f gsel_t gsel_s res_same res_and1 res_and2 res_and3 res_and4 res_and5 res_and6 res_false res_true res_v res_ptr res_fptr res_osl res_xsl soft aAppendZ aCap ovlI ovlJ res_fsl res_esl res_agg res_tup res_fn res_junk res_anyb aPick hk imp_left iteV dstOk guardOk astep astepE AI.ev AI.look AI.put envOf aBox cellsOf allOne allOneA oneA Value.oneCell' Value.cells newObj' aFieldAddr aLoad obj readAt thenA blockA condA retA resA tupA view hot hotC hotR depthV cAgg cInt cBool mkAgg allV aAlloc aBuild fillA writeAt aStore isAggA aField idx aIndexAddr aIndex bnd aSlice aExtract aLen aBuiltin aCall isStatic eqAgg eqTy eqC ev_add ev_sub ev_mul ev_quo ev_rem ev_and ev_or ev_xor ev_andNot ev_shl ev_shr ev_eql ev_neq ev_lss ev_leq ev_gtr ev_geq ev_agg w64 wu32 wu8 ev_not ev_neg Cod.plain RCod.plain argM finM cold coldC coldR goInt intDec boolDec aggDec Weaker heapW lowA lowC Again slDec undef aBuildSlice setRows aAppend rowsOf aMakeSlice aClear aCopy softer_self softer_nil valsOf ev_min2 ev_max2 hotR_set hotR_append take_map_set irow_cold irow_mapM irow_mapMc irow_view irow_viewc irow_hotR irow_ren irow_renc irow_low WeakT heapT thOf ren renC AgainT NextF NextT fnDec cFn rNil selfLt natLt0 natLt1 getLastMap frame0 frame1 own0 own1 argG finG tau tauI tauO tauC bareA bareC bareH irow_tau irow_tauc irow_bare irow_flat irow_bareR ownA_nil ownT_nil ownA_c ownT_c ownA_s ownT_s takeMapLen footC plainA noId noIdC cloneF frame0F frame1F insertF replaceI replaceF cellDec rCell fpDec cFp rTwo deleteF allV_oA oneA_oA res_oA RunR RunE runFT footAt hotR_cat tmodN fxSz2 fxBy2 fxAg2 fxZe2 fxSl2 fxAr2 fxPl2 fxSz3 fxBy3 fxAg3 fxZe3 fxSl3 fxAr3 fxPl3 fxSz4 fxBy4 fxAg4 fxZe4 fxSl4 fxAr4 fxPl4 fxSz5 fxBy5 fxAg5 fxZe5 fxSl5 fxAr5 fxPl5 fxSz9 fxBy9 fxAg9 fxZe9 fxSl9 fxAr9 fxPl9 fxSz12 fxBy12 fxAg12 fxZe12 fxSl12 fxAr12 fxPl12 fxSz13 fxBy13 fxAg13 fxZe13 fxSl13 fxAr13 fxFi13x0 fxFi13x1 fxPl13 fxSz21 fxBy21 fxAg21 fxZe21 fxSl21 fxAr21 fxPl21 fxSz22 fxBy22 fxAg22 fxZe22 fxSl22 fxAr22 fxPl22 fxSz23 fxBy23 fxAg23 fxZe23 fxSl23 fxAr23 fxFi23x0 fxFi23x1 fxPl23 fxSz24 fxBy24 fxAg24 fxZe24 fxSl24 fxAr24 fxFi24x0 fxFi24x1 fxPl24 fxSz26 fxBy26 fxAg26 fxZe26 fxSl26 fxAr26 fxPl26 fxSz28 fxBy28 fxAg28 fxZe28 fxSl28 fxAr28 fxPl28 fxSz29 fxBy29 fxAg29 fxZe29 fxSl29 fxAr29 fxFi29x0 fxFi29x1 fxFi29x2 fxFi29x3 fxFi29x4 fxPl29 fxSz30 fxBy30 fxAg30 fxZe30 fxSl30 fxAr30 fxFi30x0 fxFi30x1 fxFi30x2 fxFi30x3 fxFi30x4 fxPl30 fxSz48 fxBy48 fxAg48 fxZe48 fxSl48 fxAr48 fxPl48 fxSz49 fxBy49 fxAg49 fxZe49 fxSl49 fxAr49 fxPl49 fxSz53 fxBy53 fxAg53 fxZe53 fxSl53 fxAr53 fxFi53x0 fxFi53x1 fxFi53x2 fxFi53x3 fxPl53 fxSz54 fxBy54 fxAg54 fxZe54 fxSl54 fxAr54 fxFi54x0 fxFi54x1 fxFi54x2 fxFi54x3 fxPl54 fxSz59 fxBy59 fxAg59 fxZe59 fxSl59 fxAr59 fxPl59 fxSz63 fxBy63 fxAg63 fxZe63 fxSl63 fxAr63 fxPl63 fxSz68 fxBy68 fxAg68 fxZe68 fxSl68 fxAr68 fxPl68 fxSz75 fxBy75 fxAg75 fxZe75 fxSl75 fxAr75 fxPl75 fxSz90 fxBy90 fxAg90 fxZe90 fxSl90 fxAr90 fxFi90x0 fxFi90x1 fxFi90x2 fxPl90 fxSz91 fxBy91 fxAg91 fxZe91 fxSl91 fxAr91 fxFi91x0 fxFi91x1 fxFi91x2 fxPl91 fxSz96 fxBy96 fxAg96 fxZe96 fxSl96 fxAr96 fxPl96 fxSz108 fxBy108 fxAg108 fxZe108 fxSl108 fxAr108 fxPl108 fxSz115 fxBy115 fxAg115 fxZe115 fxSl115 fxAr115 fxPl115 fxSz117 fxBy117 fxAg117 fxZe117 fxSl117 fxAr117 fxPl117 fxSz124 fxBy124 fxAg124 fxZe124 fxSl124 fxAr124 fxPl124 fxSz128 fxBy128 fxAg128 fxZe128 fxSl128 fxAr128 fxPl128 fxSz133 fxBy133 fxAg133 fxZe133 fxSl133 fxAr133 fxPl133 fxSz140 fxBy140 fxAg140 fxZe140 fxSl140 fxAr140 fxPl140 fxSz141 fxBy141 fxAg141 fxZe141 fxSl141 fxAr141 fxFi141x0 fxPl141 fxSz147 fxBy147 fxAg147 fxZe147 fxSl147 fxAr147 fxPl147 fxSz152 fxBy152 fxAg152 fxZe152 fxSl152 fxAr152 fxPl152 fxEq28 fxEq30 fxEq54 fxEq91 fxCv2x2 fxCv2x3 fxCv2x5 fxCv2x12 fxCv2x21 fxCv2x26 fxCv2x96 fxCv2x108 fxCv2x115 fxCv2x117 fxCv2x124 fxCv3x2 fxCv3x3 fxCv3x5 fxCv3x12 fxCv3x21 fxCv3x26 fxCv3x96 fxCv3x108 fxCv3x115 fxCv3x117 fxCv3x124 fxCv5x2 fxCv5x3 fxCv5x5 fxCv5x12 fxCv5x21 fxCv5x26 fxCv5x96 fxCv5x108 fxCv5x115 fxCv5x117 fxCv5x124 fxCv12x2 fxCv12x3 fxCv12x5 fxCv12x12 fxCv12x21 fxCv12x26 fxCv12x96 fxCv12x108 fxCv12x115 fxCv12x117 fxCv12x124 fxCv21x2 fxCv21x3 fxCv21x5 fxCv21x12 fxCv21x21 fxCv21x26 fxCv21x96 fxCv21x108 fxCv21x115 fxCv21x117 fxCv21x124 fxCv26x2 fxCv26x3 fxCv26x5 fxCv26x12 fxCv26x21 fxCv26x26 fxCv26x96 fxCv26x108 fxCv26x115 fxCv26x117 fxCv26x124 fxCv96x2 fxCv96x3 fxCv96x5 fxCv96x12 fxCv96x21 fxCv96x26 fxCv96x96 fxCv96x108 fxCv96x115 fxCv96x117 fxCv96x124 fxCv108x2 fxCv108x3 fxCv108x5 fxCv108x12 fxCv108x21 fxCv108x26 fxCv108x96 fxCv108x108 fxCv108x115 fxCv108x117 fxCv108x124 fxCv115x2 fxCv115x3 fxCv115x5 fxCv115x12 fxCv115x21 fxCv115x26 fxCv115x96 fxCv115x108 fxCv115x115 fxCv115x117 fxCv115x124 fxCv117x2 fxCv117x3 fxCv117x5 fxCv117x12 fxCv117x21 fxCv117x26 fxCv117x96 fxCv117x108 fxCv117x115 fxCv117x117 fxCv117x124 fxCv124x2 fxCv124x3 fxCv124x5 fxCv124x12 fxCv124x21 fxCv124x26 fxCv124x96 fxCv124x108 fxCv124x115 fxCv124x117 fxCv124x124 fxEb4 fxNb4 fxLt9 fxLn22 fxNe22 fxNn22 fxOe22 fxOn22 fxXe22 fxXn22 fxLn48 fxNe48 fxNn48 fxOe48 fxOn48 fxXe48 fxXn48 fxLn49 fxNe49 fxNn49 fxOe49 fxOn49 fxXe49 fxXn49 fxLn59 fxNe59 fxNn59 fxOe59 fxOn59 fxXe59 fxXn59 fxLn63 fxNe63 fxNn63 fxOe63 fxOn63 fxXe63 fxXn63 fxLn75 fxNe75 fxNn75 fxOe75 fxOn75 fxXe75 fxXn75 fxFn3 fxFm3 fxFb3 fxFi3 fxFj3 fxFn4 fxFm4 fxFb4 fxFi4 fxFj4 fxFn5 fxFm5 fxFb5 fxFi5 fxFj5 fxFn6 fxFm6 fxFb6 fxFi6 fxFj6 fxFn7 fxFm7 fxFb7 fxFi7 fxFj7 fxFn8 fxFm8 fxFb8 fxFi8 fxFj8 fxFn9 fxFm9 fxFb9 fxFi9 fxFj9 fxFn10 fxFm10 fxFb10 fxFi10 fxFj10 fxFn11 fxFm11 fxFb11 fxFi11 fxFj11 fxFn12 fxFm12 fxFb12 fxFi12 fxFj12 fxFn13 fxFm13 fxFb13 fxFi13 fxFj13 fxFn14 fxFm14 fxFb14 fxFi14 fxFj14 fxFn15 fxFm15 fxFb15 fxFi15 fxFj15 fxFn16 fxFm16 fxFb16 fxFi16 fxFj16 fxFn17 fxFm17 fxFb17 fxFi17 fxFj17 fxFn18 fxFm18 fxFb18 fxFi18 fxFj18 fxFn19 fxFm19 fxFb19 fxFi19 fxFj19 fxFn20 fxFm20 fxFb20 fxFi20 fxFj20 fxFn21 fxFm21 fxFb21 fxFi21 fxFj21 fxFn22 fxFm22 fxFb22 fxFi22 fxFj22 fxFn23 fxFm23 fxFb23 fxFi23 fxFj23 fxFn24 fxFm24 fxFb24 fxFi24 fxFj24 fxFn25 fxFm25 fxFb25 fxFi25 fxFj25 fxFn26 fxFm26 fxFb26 fxFi26 fxFj26 fxFn27 fxFm27 fxFb27 fxFi27 fxFj27 fxFn28 fxFm28 fxFb28 fxFi28 fxFj28 fxFn29 fxFm29 fxFb29 fxFi29 fxFj29 fxFn30 fxFm30 fxFb30 fxFi30 fxFj30 fxFn31 fxFm31 fxFb31 fxFi31 fxFj31 fxFn32 fxFm32 fxFb32 fxFi32 fxFj32 fxFn33 fxFm33 fxFb33 fxFi33 fxFj33 fxFn34 fxFm34 fxFb34 fxFi34 fxFj34 fxFn35 fxFm35 fxFb35 fxFi35 fxFj35 fxFn36 fxFm36 fxFb36 fxFi36 fxFj36 fxFn37 fxFm37 fxFb37 fxFi37 fxFj37 fxFn38 fxFm38 fxFb38 fxFi38 fxFj38 fxFn39 fxFm39 fxFb39 fxFi39 fxFj39 fxFn40 fxFm40 fxFb40 fxFi40 fxFj40 fxFn41 fxFm41 fxFb41 fxFi41 fxFj41 fxFn42 fxFm42 fxFb42 fxFi42 fxFj42 fxFn43 fxFm43 fxFb43 fxFi43 fxFj43 fxFn44 fxFm44 fxFb44 fxFi44 fxFj44 fxFn45 fxFm45 fxFb45 fxFi45 fxFj45 fxFn46 fxFm46 fxFb46 fxFi46 fxFj46 fxFn47 fxFm47 fxFb47 fxFi47 fxFj47 fxFn48 fxFm48 fxFb48 fxFi48 fxFj48 fxFn49 fxFm49 fxFb49 fxFi49 fxFj49 fxFn50 fxFm50 fxFb50 fxFi50 fxFj50 fxFn51 fxFm51 fxFb51 fxFi51 fxFj51 fxFn52 fxFm52 fxFb52 fxFi52 fxFj52 fxFn53 fxFm53 fxFb53 fxFi53 fxFj53 fxFn54 fxFm54 fxFb54 fxFi54 fxFj54 fxFn55 fxFm55 fxFb55 fxFi55 fxFj55 fxFn56 fxFm56 fxFb56 fxFi56 fxFj56 fxFn57 fxFm57 fxFb57 fxFi57 fxFj57 fxFn58 fxFm58 fxFb58 fxFi58 fxFj58 fxFn59 fxFm59 fxFb59 fxFi59 fxFj59 fxFn60 fxFm60 fxFn61 fxFm61 fxFb61 fxFi61 fxFj61 fxFn62 fxFm62 fxFb62 fxFi62 fxFj62 fxFn63 fxFm63 fxFb63 fxFi63 fxFj63 fxFn64 fxFm64 fxFb64 fxFi64 fxFj64 fxFn65 fxFm65 fxFb65 fxFi65 fxFj65 fxFn66 fxFm66 fxFb66 fxFi66 fxFj66 fxFn67 fxFm67 fxFb67 fxFi67 fxFj67 fxFn68 fxFm68 fxFb68 fxFi68 fxFj68 fxFn69 fxFm69 fxFb69 fxFi69 fxFj69 fxFn70 fxFm70 fxFb70 fxFi70 fxFj70 fxFn71 fxFm71 fxFb71 fxFi71 fxFj71 fxFn72 fxFm72 fxFb72 fxFi72 fxFj72 fxFn73 fxFm73 fxFb73 fxFi73 fxFj73 fxFn74 fxFm74 fxFb74 fxFi74 fxFj74 fxFn75 fxFm75 fxFb75 fxFi75 fxFj75 fxFn76 fxFm76 fxFb76 fxFi76 fxFj76 fxFn77 fxFm77 fxFb77 fxFi77 fxFj77 fxFn78 fxFm78 fxFb78 fxFi78 fxFj78 fxFn79 fxFm79 fxFb79 fxFi79 fxFj79 fxFn80 fxFm80 fxFb80 fxFi80 fxFj80 fxFn81 fxFm81 fxFb81 fxFi81 fxFj81 fxFn82 fxFm82 fxFb82 fxFi82 fxFj82 fxFn83 fxFm83 fxFb83 fxFi83 fxFj83 fxFn84 fxFm84 fxFb84 fxFi84 fxFj84 fxFn85 fxFm85 fxFb85 fxFi85 fxFj85 fxFn86 fxFm86 fxFb86 fxFi86 fxFj86 fxFn87 fxFm87 fxFb87 fxFi87 fxFj87 fxFn88 fxFm88 fxFb88 fxFi88 fxFj88 fxFn89 fxFm89 fxFb89 fxFi89 fxFj89 fxFn90 fxFm90 fxFb90 fxFi90 fxFj90 fxFn91 fxFm91 fxFb91 fxFi91 fxFj91 fxFn92 fxFm92 fxFb92 fxFi92 fxFj92 fxFn93 fxFm93 fxFb93 fxFi93 fxFj93 fxFn94 fxFm94 fxFb94 fxFi94 fxFj94 fxFn95 fxFm95 fxFb95 fxFi95 fxFj95 fxFn96 fxFm96 fxFb96 fxFi96 fxFj96 fxFn97 fxFm97 fxFb97 fxFi97 fxFj97 fxFn98 fxFm98 fxFb98 fxFi98 fxFj98 fxFn99 fxFm99 fxFb99 fxFi99 fxFj99 fxFn100 fxFm100 fxFb100 fxFi100 fxFj100 fxFn101 fxFm101 fxFb101 fxFi101 fxFj101
attribute [local simp] Pg.eta Pg.cold Pg.mapM Pg.mapMc Pg.view Pg.viewc Pg.hotR Pg.ren Pg.renc Pg.low Pg.tau Pg.tauc Pg.bare Pg.flat Pg.flat1 Pg.mapMt Pg.mapMd Pg.coldt Pg.coldd Pg.hotRt Pg.hotRd
attribute [local simp] Pp.eta Pp.cold Pp.mapM Pp.mapMc Pp.view Pp.viewc Pp.hotR Pp.ren Pp.renc Pp.low Pp.tau Pp.tauc Pp.bare Pp.flat Pp.flat1 Pp.mapMt Pp.mapMd Pp.coldt Pp.coldd Pp.hotRt Pp.hotRd
attribute [local simp] Ca.eta Ca.dec_row Ca.dec_hrow Ca.cold Ca.hcold Ca.mapM Ca.mapMc Ca.hmapM Ca.hmapMc Ca.view Ca.viewc Ca.hview Ca.hviewc Ca.hotR Ca.ren Ca.renc Ca.low Ca.hlow
theorem turns_pure : PureOk Try.prog 6 (argM (cAgg rCa) fun c => argM (cInt .i64) fun f => argM (cInt .i64) fun n => argM (cAgg rPg) fun d => finM (some (.v (.bool true)))) := by
  refine pure4 Try.func6 rfl ?_
  rintro c f n d r hr
  simp only [Option.some.injEq] at hr
  subst hr
  refine body_gen (((((((noOrc_ok.withP caches_pure).withP bring_pure).withP out_pure).withP get_pure).withP map_pure).withP good_pure).withP eqPp_pure) fxMix (by kernel_rfl) (by simp [Try.ntmps6]) ?_
  intro C cP cI cN cD cF cA
  have cp0 := orcP caches_pure (C := C) (by rw [cP]; rfl)
  have cp1 := orcP bring_pure (C := C) (by rw [cP]; rfl)
  have cp2 := orcP out_pure (C := C) (by rw [cP]; rfl)
  have cp3 := orcP get_pure (C := C) (by rw [cP]; rfl)
  have cp4 := orcP map_pure (C := C) (by rw [cP]; rfl)
  have cp5 := orcP good_pure (C := C) (by rw [cP]; rfl)
  have cp6 := orcP eqPp_pure (C := C) (by rw [cP]; rfl)
  replace cI : C.inl = fun _ => false := cI
  replace cD : C.dyn = fun _ => [] := cD
  clear cP cN cF cA
  have hd := pg_eq d d
  cases hb : caBring c f n d with
  | error e =>
    have he := bring_err hb
    cases hm : caMap c f n 1 with
    | error e2 =>
      have he2 := map_err hm
      obtain ⟨l, T⟩ := c
      simp [Try.ntmps6, Try.results6, cSl, cp0, cp1, cp2, cp3, cp4, cp5, cp6, cI, cD, rCa, caDec, Ca.row, rPp, ppDec, rPg, Pg.row, pgDec, hb, he, hm, he2, caE]
      done
    | ok y =>
      obtain ⟨g, m1, m2, m3⟩ := map_back hm
      have hl := g.len
      have hl2 : c.pages.length ≤ 4294967296 := by omega
      obtain ⟨l, T⟩ := c
      obtain ⟨l', T'⟩ := y
      simp only at hl2
      simp [Try.ntmps6, Try.results6, cSl, cp0, cp1, cp2, cp3, cp4, cp5, cp6, cI, cD, rCa, caDec, Ca.row, rPp, ppDec, rPg, Pg.row, pgDec, hb, he, hm, m3, hl2, caE, caV]
      done
  | ok x =>
    obtain ⟨g, b1, b2, b3, b4, b5, b6⟩ := bring_ok hb
    have hl := g.len
    have hl2 : c.pages.length ≤ 4294967296 := by omega
    cases hm : caMap c f n 1 with
    | error e2 =>
      have he2 := map_err hm
      clear b2
      obtain ⟨l, T⟩ := c
      obtain ⟨l', T'⟩ := x
      simp only at hl2
      simp [Try.ntmps6, Try.results6, cSl, cp0, cp1, cp2, cp3, cp4, cp5, cp6, cI, cD, rCa, caDec, Ca.row, rPp, ppDec, rPg, Pg.row, pgDec, rI, irow, irowDec, hb, b4, b5, b6, hm, he2, hl2, pgV, caE, caV]
      done
    | ok y =>
      obtain ⟨_, m1, m2, m3⟩ := map_back hm
      clear b2
      obtain ⟨l, T⟩ := c
      obtain ⟨l', T'⟩ := x
      obtain ⟨l2, T2⟩ := y
      simp only at hl2
      simp [Try.ntmps6, Try.results6, cSl, cp0, cp1, cp2, cp3, cp4, cp5, cp6, cI, cD, rCa, caDec, Ca.row, rPp, ppDec, rPg, Pg.row, pgDec, rI, irow, irowDec, hb, b4, b5, b6, hm, m3, hl2, pgV, caE, caV]
      done
end Go.Proofs.Ytdhkhnegnlmgiaa
namespace Go.Proofs.Ytdhkhnegnlmgiaa
open Go.AI
set_option maxHeartbeats 2000000
set_option maxRecDepth 100000
set_option linter.unusedSimpArgs false
set_option linter.unusedVariables false
attribute [local simp] wpA wpX RunA RunD runF foot footP footB idsA bare apart runL step1 gsel_f gsel_t gsel_s res_same res_and1 res_and2 res_and3 res_and4 res_and5 res_and6 res_false res_true res_v res_ptr res_fptr res_osl res_xsl soft aAppendZ aCap ovlI ovlJ res_fsl res_esl res_agg res_tup res_fn res_junk res_anyb aPick hk imp_left iteV dstOk guardOk astep astepE AI.ev AI.look AI.put envOf aBox cellsOf allOne allOneA oneA Value.oneCell' Value.cells newObj' aFieldAddr aLoad obj readAt thenA blockA condA retA resA tupA view hot hotC hotR depthV cAgg cInt cBool mkAgg allV aAlloc aBuild fillA writeAt aStore isAggA aField idx aIndexAddr aIndex bnd aSlice aExtract aLen aBuiltin aCall isStatic eqAgg eqTy eqC ev_add ev_sub ev_mul ev_quo ev_rem ev_and ev_or ev_xor ev_andNot ev_shl ev_shr ev_eql ev_neq ev_lss ev_leq ev_gtr ev_geq ev_agg w64 wu32 wu8 ev_not ev_neg Cod.plain RCod.plain argM finM cold coldC coldR goInt intDec boolDec aggDec Weaker heapW lowA lowC Again slDec undef aBuildSlice setRows aAppend rowsOf aMakeSlice aClear aCopy softer_self softer_nil valsOf ev_min2 ev_max2 hotR_set hotR_append take_map_set irow_cold irow_mapM irow_mapMc irow_view irow_viewc irow_hotR irow_ren irow_renc irow_low WeakT heapT thOf ren renC AgainT NextF NextT fnDec cFn rNil selfLt natLt0 natLt1 getLastMap frame0 frame1 own0 own1 argG finG tau tauI tauO tauC bareA bareC bareH irow_tau irow_tauc irow_bare irow_flat irow_bareR ownA_nil ownT_nil ownA_c ownT_c ownA_s ownT_s takeMapLen footC plainA noId noIdC cloneF frame0F frame1F insertF replaceI replaceF cellDec rCell fpDec cFp rTwo deleteF allV_oA oneA_oA res_oA RunR RunE runFT footAt hotR_cat tmodN fxSz2 fxBy2 fxAg2 fxZe2 fxSl2 fxAr2 fxPl2 fxSz3 fxBy3 fxAg3 fxZe3 fxSl3 fxAr3 fxPl3 fxSz4 fxBy4 fxAg4 fxZe4 fxSl4 fxAr4 fxPl4 fxSz5 fxBy5 fxAg5 fxZe5 fxSl5 fxAr5 fxPl5 fxSz9 fxBy9 fxAg9 fxZe9 fxSl9 fxAr9 fxPl9 fxSz12 fxBy12 fxAg12 fxZe12 fxSl12 fxAr12 fxPl12 fxSz13 fxBy13 fxAg13 fxZe13 fxSl13 fxAr13 fxFi13x0 fxFi13x1 fxPl13 fxSz21 fxBy21 fxAg21 fxZe21 fxSl21 fxAr21 fxPl21 fxSz22 fxBy22 fxAg22 fxZe22 fxSl22 fxAr22 fxPl22 fxSz23 fxBy23 fxAg23 fxZe23 fxSl23 fxAr23 fxFi23x0 fxFi23x1 fxPl23 fxSz24 fxBy24 fxAg24 fxZe24 fxSl24 fxAr24 fxFi24x0 fxFi24x1 fxPl24 fxSz26 fxBy26 fxAg26 fxZe26 fxSl26 fxAr26 fxPl26 fxSz28 fxBy28 fxAg28 fxZe28 fxSl28 fxAr28 fxPl28 fxSz29 fxBy29 fxAg29 fxZe29 fxSl29 fxAr29 fxFi29x0 fxFi29x1 fxFi29x2 fxFi29x3 fxFi29x4 fxPl29 fxSz30 fxBy30 fxAg30 fxZe30 fxSl30 fxAr30 fxFi30x0 fxFi30x1 fxFi30x2 fxFi30x3 fxFi30x4 fxPl30 fxSz48 fxBy48 fxAg48 fxZe48 fxSl48 fxAr48 fxPl48 fxSz49 fxBy49 fxAg49 fxZe49 fxSl49 fxAr49 fxPl49 fxSz53 fxBy53 fxAg53 fxZe53 fxSl53 fxAr53 fxFi53x0 fxFi53x1 fxFi53x2 fxFi53x3 fxPl53 fxSz54 fxBy54 fxAg54 fxZe54 fxSl54 fxAr54 fxFi54x0 fxFi54x1 fxFi54x2 fxFi54x3 fxPl54 fxSz59 fxBy59 fxAg59 fxZe59 fxSl59 fxAr59 fxPl59 fxSz63 fxBy63 fxAg63 fxZe63 fxSl63 fxAr63 fxPl63 fxSz68 fxBy68 fxAg68 fxZe68 fxSl68 fxAr68 fxPl68 fxSz75 fxBy75 fxAg75 fxZe75 fxSl75 fxAr75 fxPl75 fxSz90 fxBy90 fxAg90 fxZe90 fxSl90 fxAr90 fxFi90x0 fxFi90x1 fxFi90x2 fxPl90 fxSz91 fxBy91 fxAg91 fxZe91 fxSl91 fxAr91 fxFi91x0 fxFi91x1 fxFi91x2 fxPl91 fxSz96 fxBy96 fxAg96 fxZe96 fxSl96 fxAr96 fxPl96 fxSz108 fxBy108 fxAg108 fxZe108 fxSl108 fxAr108 fxPl108 fxSz115 fxBy115 fxAg115 fxZe115 fxSl115 fxAr115 fxPl115 fxSz117 fxBy117 fxAg117 fxZe117 fxSl117 fxAr117 fxPl117 fxSz124 fxBy124 fxAg124 fxZe124 fxSl124 fxAr124 fxPl124 fxSz128 fxBy128 fxAg128 fxZe128 fxSl128 fxAr128 fxPl128 fxSz133 fxBy133 fxAg133 fxZe133 fxSl133 fxAr133 fxPl133 fxSz140 fxBy140 fxAg140 fxZe140 fxSl140 fxAr140 fxPl140 fxSz141 fxBy141 fxAg141 fxZe141 fxSl141 fxAr141 fxFi141x0 fxPl141 fxSz147 fxBy147 fxAg147 fxZe147 fxSl147 fxAr147 fxPl147 fxSz152 fxBy152 fxAg152 fxZe152 fxSl152 fxAr152 fxPl152 fxEq28 fxEq30 fxEq54 fxEq91 fxCv2x2 fxCv2x3 fxCv2x5 fxCv2x12 fxCv2x21 fxCv2x26 fxCv2x96 fxCv2x108 fxCv2x115 fxCv2x117 fxCv2x124 fxCv3x2 fxCv3x3 fxCv3x5 fxCv3x12 fxCv3x21 fxCv3x26 fxCv3x96 fxCv3x108 fxCv3x115 fxCv3x117 fxCv3x124 fxCv5x2 fxCv5x3 fxCv5x5 fxCv5x12 fxCv5x21 fxCv5x26 fxCv5x96 fxCv5x108 fxCv5x115 fxCv5x117 fxCv5x124 fxCv12x2 fxCv12x3 fxCv12x5 fxCv12x12 fxCv12x21 fxCv12x26 fxCv12x96 fxCv12x108 fxCv12x115 fxCv12x117 fxCv12x124 fxCv21x2 fxCv21x3 fxCv21x5 fxCv21x12 fxCv21x21 fxCv21x26 fxCv21x96 fxCv21x108 fxCv21x115 fxCv21x117 fxCv21x124 fxCv26x2 fxCv26x3 fxCv26x5 fxCv26x12 fxCv26x21 fxCv26x26 fxCv26x96 fxCv26x108 fxCv26x115 fxCv26x117 fxCv26x124 fxCv96x2 fxCv96x3 fxCv96x5 fxCv96x12 fxCv96x21 fxCv96x26 fxCv96x96 fxCv96x108 fxCv96x115 fxCv96x117 fxCv96x124 fxCv108x2 fxCv108x3 fxCv108x5 fxCv108x12 fxCv108x21 fxCv108x26 fxCv108x96 fxCv108x108 fxCv108x115 fxCv108x117 fxCv108x124 fxCv115x2 fxCv115x3 fxCv115x5 fxCv115x12 fxCv115x21 fxCv115x26 fxCv115x96 fxCv115x108 fxCv115x115 fxCv115x117 fxCv115x124 fxCv117x2 fxCv117x3 fxCv117x5 fxCv117x12 fxCv117x21 fxCv117x26 fxCv117x96 fxCv117x108 fxCv117x115 fxCv117x117 fxCv117x124 fxCv124x2 fxCv124x3 fxCv124x5 fxCv124x12 fxCv124x21 fxCv124x26 fxCv124x96 fxCv124x108 fxCv124x115 fxCv124x117 fxCv124x124 fxEb4 fxNb4 fxLt9 fxLn22 fxNe22 fxNn22 fxOe22 fxOn22 fxXe22 fxXn22 fxLn48 fxNe48 fxNn48 fxOe48 fxOn48 fxXe48 fxXn48 fxLn49 fxNe49 fxNn49 fxOe49 fxOn49 fxXe49 fxXn49 fxLn59 fxNe59 fxNn59 fxOe59 fxOn59 fxXe59 fxXn59 fxLn63 fxNe63 fxNn63 fxOe63 fxOn63 fxXe63 fxXn63 fxLn75 fxNe75 fxNn75 fxOe75 fxOn75 fxXe75 fxXn75 fxFn3 fxFm3 fxFb3 fxFi3 fxFj3 fxFn4 fxFm4 fxFb4 fxFi4 fxFj4 fxFn5 fxFm5 fxFb5 fxFi5 fxFj5 fxFn6 fxFm6 fxFb6 fxFi6 fxFj6 fxFn7 fxFm7 fxFb7 fxFi7 fxFj7 fxFn8 fxFm8 fxFb8 fxFi8 fxFj8 fxFn9 fxFm9 fxFb9 fxFi9 fxFj9 fxFn10 fxFm10 fxFb10 fxFi10 fxFj10 fxFn11 fxFm11 fxFb11 fxFi11 fxFj11 fxFn12 fxFm12 fxFb12 fxFi12 fxFj12 fxFn13 fxFm13 fxFb13 fxFi13 fxFj13 fxFn14 fxFm14 fxFb14 fxFi14 fxFj14 fxFn15 fxFm15 fxFb15 fxFi15 fxFj15 fxFn16 fxFm16 fxFb16 fxFi16 fxFj16 fxFn17 fxFm17 fxFb17 fxFi17 fxFj17 fxFn18 fxFm18 fxFb18 fxFi18 fxFj18 fxFn19 fxFm19 fxFb19 fxFi19 fxFj19 fxFn20 fxFm20 fxFb20 fxFi20 fxFj20 fxFn21 fxFm21 fxFb21 fxFi21 fxFj21 fxFn22 fxFm22 fxFb22 fxFi22 fxFj22 fxFn23 fxFm23 fxFb23 fxFi23 fxFj23 fxFn24 fxFm24 fxFb24 fxFi24 fxFj24 fxFn25 fxFm25 fxFb25 fxFi25 fxFj25 fxFn26 fxFm26 fxFb26 fxFi26 fxFj26 fxFn27 fxFm27 fxFb27 fxFi27 fxFj27 fxFn28 fxFm28 fxFb28 fxFi28 fxFj28 fxFn29 fxFm29 fxFb29 fxFi29 fxFj29 fxFn30 fxFm30 fxFb30 fxFi30 fxFj30 fxFn31 fxFm31 fxFb31 fxFi31 fxFj31 fxFn32 fxFm32 fxFb32 fxFi32 fxFj32 fxFn33 fxFm33 fxFb33 fxFi33 fxFj33 fxFn34 fxFm34 fxFb34 fxFi34 fxFj34 fxFn35 fxFm35 fxFb35 fxFi35 fxFj35 fxFn36 fxFm36 fxFb36 fxFi36 fxFj36 fxFn37 fxFm37 fxFb37 fxFi37 fxFj37 fxFn38 fxFm38 fxFb38 fxFi38 fxFj38 fxFn39 fxFm39 fxFb39 fxFi39 fxFj39 fxFn40 fxFm40 fxFb40 fxFi40 fxFj40 fxFn41 fxFm41 fxFb41 fxFi41 fxFj41 fxFn42 fxFm42 fxFb42 fxFi42 fxFj42 fxFn43 fxFm43 fxFb43 fxFi43 fxFj43 fxFn44 fxFm44 fxFb44 fxFi44 fxFj44 fxFn45 fxFm45 fxFb45 fxFi45 fxFj45 fxFn46 fxFm46 fxFb46 fxFi46 fxFj46 fxFn47 fxFm47 fxFb47 fxFi47 fxFj47 fxFn48 fxFm48 fxFb48 fxFi48 fxFj48 fxFn49 fxFm49 fxFb49 fxFi49 fxFj49 fxFn50 fxFm50 fxFb50 fxFi50 fxFj50 fxFn51 fxFm51 fxFb51 fxFi51 fxFj51 fxFn52 fxFm52 fxFb52 fxFi52 fxFj52 fxFn53 fxFm53 fxFb53 fxFi53 fxFj53 fxFn54 fxFm54 fxFb54 fxFi54 fxFj54 fxFn55 fxFm55 fxFb55 fxFi55 fxFj55 fxFn56 fxFm56 fxFb56 fxFi56 fxFj56 fxFn57 fxFm57 fxFb57 fxFi57 fxFj57 fxFn58 fxFm58 fxFb58 fxFi58 fxFj58 fxFn59 fxFm59 fxFb59 fxFi59 fxFj59 fxFn60 fxFm60 fxFn61 fxFm61 fxFb61 fxFi61 fxFj61 fxFn62 fxFm62 fxFb62 fxFi62 fxFj62 fxFn63 fxFm63 fxFb63 fxFi63 fxFj63 fxFn64 fxFm64 fxFb64 fxFi64 fxFj64 fxFn65 fxFm65 fxFb65 fxFi65 fxFj65 fxFn66 fxFm66 fxFb66 fxFi66 fxFj66 fxFn67 fxFm67 fxFb67 fxFi67 fxFj67 fxFn68 fxFm68 fxFb68 fxFi68 fxFj68 fxFn69 fxFm69 fxFb69 fxFi69 fxFj69 fxFn70 fxFm70 fxFb70 fxFi70 fxFj70 fxFn71 fxFm71 fxFb71 fxFi71 fxFj71 fxFn72 fxFm72 fxFb72 fxFi72 fxFj72 fxFn73 fxFm73 fxFb73 fxFi73 fxFj73 fxFn74 fxFm74 fxFb74 fxFi74 fxFj74 fxFn75 fxFm75 fxFb75 fxFi75 fxFj75 fxFn76 fxFm76 fxFb76 fxFi76 fxFj76 fxFn77 fxFm77 fxFb77 fxFi77 fxFj77 fxFn78 fxFm78 fxFb78 fxFi78 fxFj78 fxFn79 fxFm79 fxFb79 fxFi79 fxFj79 fxFn80 fxFm80 fxFb80 fxFi80 fxFj80 fxFn81 fxFm81 fxFb81 fxFi81 fxFj81 fxFn82 fxFm82 fxFb82 fxFi82 fxFj82 fxFn83 fxFm83 fxFb83 fxFi83 fxFj83 fxFn84 fxFm84 fxFb84 fxFi84 fxFj84 fxFn85 fxFm85 fxFb85 fxFi85 fxFj85 fxFn86 fxFm86 fxFb86 fxFi86 fxFj86 fxFn87 fxFm87 fxFb87 fxFi87 fxFj87 fxFn88 fxFm88 fxFb88 fxFi88 fxFj88 fxFn89 fxFm89 fxFb89 fxFi89 fxFj89 fxFn90 fxFm90 fxFb90 fxFi90 fxFj90 fxFn91 fxFm91 fxFb91 fxFi91 fxFj91 fxFn92 fxFm92 fxFb92 fxFi92 fxFj92 fxFn93 fxFm93 fxFb93 fxFi93 fxFj93 fxFn94 fxFm94 fxFb94 fxFi94 fxFj94 fxFn95 fxFm95 fxFb95 fxFi95 fxFj95 fxFn96 fxFm96 fxFb96 fxFi96 fxFj96 fxFn97 fxFm97 fxFb97 fxFi97 fxFj97 fxFn98 fxFm98 fxFb98 fxFi98 fxFj98 fxFn99 fxFm99 fxFb99 fxFi99 fxFj99 fxFn100 fxFm100 fxFb100 fxFi100 fxFj100 fxFn101 fxFm101 fxFb101 fxFi101 fxFj101
attribute [local simp] Pg.eta Pg.cold Pg.mapM Pg.mapMc Pg.view Pg.viewc Pg.hotR Pg.ren Pg.renc Pg.low Pg.tau Pg.tauc Pg.bare Pg.flat Pg.flat1 Pg.mapMt Pg.mapMd Pg.coldt Pg.coldd Pg.hotRt Pg.hotRd
attribute [local simp] Pp.eta Pp.cold Pp.mapM Pp.mapMc Pp.view Pp.viewc Pp.hotR Pp.ren Pp.renc Pp.low Pp.tau Pp.tauc Pp.bare Pp.flat Pp.flat1 Pp.mapMt Pp.mapMd Pp.coldt Pp.coldd Pp.hotRt Pp.hotRd
attribute [local simp] Ca.eta Ca.dec_row Ca.dec_hrow Ca.cold Ca.hcold Ca.mapM Ca.mapMc Ca.hmapM Ca.hmapMc Ca.view Ca.viewc Ca.hview Ca.hviewc Ca.hotR Ca.ren Ca.renc Ca.low Ca.hlow
theorem put16 {d : Pg} {k : Nat} (hk : k < 16) (b : Int) : writeAt [.v (.int .u8 d.b0), .v (.int .u8 d.b1), .v (.int .u8 d.b2), .v (.int .u8 d.b3), .v (.int .u8 d.b4), .v (.int .u8 d.b5), .v (.int .u8 d.b6), .v (.int .u8 d.b7), .v (.int .u8 d.b8), .v (.int .u8 d.b9), .v (.int .u8 d.b10), .v (.int .u8 d.b11), .v (.int .u8 d.b12), .v (.int .u8 d.b13), .v (.int .u8 d.b14), .v (.int .u8 d.b15)] k [.v (.int .u8 b)] = [.v (.int .u8 (putB d k b).b0), .v (.int .u8 (putB d k b).b1), .v (.int .u8 (putB d k b).b2), .v (.int .u8 (putB d k b).b3), .v (.int .u8 (putB d k b).b4), .v (.int .u8 (putB d k b).b5), .v (.int .u8 (putB d k b).b6), .v (.int .u8 (putB d k b).b7), .v (.int .u8 (putB d k b).b8), .v (.int .u8 (putB d k b).b9), .v (.int .u8 (putB d k b).b10), .v (.int .u8 (putB d k b).b11), .v (.int .u8 (putB d k b).b12), .v (.int .u8 (putB d k b).b13), .v (.int .u8 (putB d k b).b14), .v (.int .u8 (putB d k b).b15)] := by
  have h : k = 0 ∨ k = 1 ∨ k = 2 ∨ k = 3 ∨ k = 4 ∨ k = 5 ∨ k = 6 ∨ k = 7 ∨ k = 8 ∨ k = 9 ∨ k = 10 ∨ k = 11 ∨ k = 12 ∨ k = 13 ∨ k = 14 ∨ k = 15 := by omega
  rcases h with rfl | rfl | rfl | rfl | rfl | rfl | rfl | rfl | rfl | rfl | rfl | rfl | rfl | rfl | rfl | rfl <;> rfl
theorem sets_pure : PureOk Try.prog 5 (argM (cAgg rCa) fun c => argM (cInt .i64) fun f => argM (cInt .i64) fun n => argM (cInt .i64) fun k => argM (cInt .u8) fun b => argM (cInt .i64) fun o => finM (some (.v (.bool true)))) := by
  refine pure6 Try.func5 rfl ?_
  rintro c f n k b o r hr
  simp only [Option.some.injEq] at hr
  subst hr
  refine body_gen (((((noOrc_ok.withP caches_pure).withP set_pure).withP get_pure).withP caCheck_pure).withP good_pure) fxMix (by kernel_rfl) (by simp [Try.ntmps5]) ?_
  intro C cP cI cN cD cF cA
  have cp0 := orcP caches_pure (C := C) (by rw [cP]; rfl)
  have cp1 := orcP set_pure (C := C) (by rw [cP]; rfl)
  have cp2 := orcP get_pure (C := C) (by rw [cP]; rfl)
  have cp3 := orcP caCheck_pure (C := C) (by rw [cP]; rfl)
  have cp4 := orcP good_pure (C := C) (by rw [cP]; rfl)
  replace cI : C.inl = fun _ => false := cI
  replace cD : C.dyn = fun _ => [] := cD
  clear cP cN cF cA
  cases hs : caSet c f n k b with
  | error e =>
    have he := set_err hs
    obtain ⟨l, T⟩ := c
    simp [Try.ntmps5, Try.results5, cSl, cp0, cp1, cp2, cp3, cp4, cI, cD, rCa, caDec, Ca.row, rPp, ppDec, rPg, Pg.row, pgDec, hs, he, caE]
    done
  | ok x =>
    obtain ⟨s1, s2, s3, s4, k0, k1, s5, s6, s7, s8⟩ := sets_spec hs
    obtain ⟨s9, s10⟩ := s8 o
    obtain ⟨k, rfl⟩ := Int.eq_ofNat_of_zero_le k0
    have hk : k < 16 := by omega
    have hk2 : ¬ (16 : Int) ≤ k := by omega
    have hk3 : (k : Int) < 16 := by omega
    have hk4 : k ≤ 15 := by omega
    have hk5 : ¬ (k : Int) < 0 := by omega
    have hk6 : ¬ 16 ≤ k := by omega
    simp only [Int.toNat_natCast] at s5
    have hlc := (caCheck_iff.1 s1).len
    obtain ⟨l, T⟩ := c
    obtain ⟨l', T'⟩ := x
    simp only at s6 s7 hlc
    have s6' : (l'.length : Int) = l.length := by omega
    simp [Try.ntmps5, Try.results5, cSl, cp0, cp1, cp2, cp3, cp4, cI, cD, rCa, caDec, Ca.row, rPp, ppDec, rPg, Pg.row, pgDec, rI, irow, irowDec, hs, caE, caV, s2, s3, s4, s5, s6, s6', hk, hk2, hk3, hk4, hk5, hk6, pgV, put16 hk]
    have hD : ∃ D : Pg, D = putB (caGet ⟨l, T⟩ f n) k b := ⟨_, rfl⟩
    obtain ⟨D, hD⟩ := hD
    rw [← hD] at s5
    simp only [← hD]
    refine loop_for l'.length (fun j (_ : Unit) => ([(1, .v (.int .i64 f)), (2, .v (.int .i64 n)), (5, .v (.int .i64 o)), (6, .ptr 0 2 0 0), (13, .ptr 1 2 0 0), (15, .ptr 2 16 0 0), (17, .ptr 3 16 0 0), (93, .fsl true 20 (l'.map Pp.row)), (94, .v (.int .i64 l'.length)), (95, .v (.int .i64 j))], [some (2, [[.fsl false 20 (l.map Pp.row), .v (.int .i64 T)]]), some (2, [[.fsl true 20 (l'.map Pp.row), .v (.int .i64 T')]]), some (16, [D.row]), some (16, [D.row])])) (fun _ _ => True) () (by omega) trivial (by simp [Pg.row, s6]) ?_ ?_
    · rintro j _ hj _ hw
      have hj2 : j < l.length := by omega
      have hjc := s7 j hj2 hj
      generalize hp' : l'[j] = p' at hjc
      generalize hp : l[j] = p at hjc
      rcases hjc with ⟨q1, q2, q3, q4, q5, q6⟩ | ⟨q1, q2⟩
      · by_cases q7 : 0 < p.dirty
        · have q8 := q6 q7
          simp [Try.ntmps5, Try.results5, cSl, cp0, cp1, cp2, cp3, cp4, cI, cD, hj, hj2, hw, hp, hp', q1, q2, q3, q4, q5, q7, q8, rCa, caDec, Ca.row, rPp, Pp.row, ppDec, rPg, Pg.row, pgDec, rI, irow, irowDec]
          omega
        · simp [Try.ntmps5, Try.results5, cSl, cp0, cp1, cp2, cp3, cp4, cI, cD, hj, hj2, hw, hp, hp', q1, q2, q3, q4, q5, q7, rCa, caDec, Ca.row, rPp, Pp.row, ppDec, rPg, Pg.row, pgDec, rI, irow, irowDec]
          done
      · subst q2
        by_cases q3 : p'.file = f
        · have q4 : ¬ p'.n = n := fun h => q1 ⟨q3, h⟩
          simp [Try.ntmps5, Try.results5, cSl, cp0, cp1, cp2, cp3, cp4, cI, cD, hj, hj2, hw, hp, hp', q3, q4, rCa, caDec, Ca.row, rPp, Pp.row, ppDec, rPg, Pg.row, pgDec, rI, irow, irowDec]
          done
        · simp [Try.ntmps5, Try.results5, cSl, cp0, cp1, cp2, cp3, cp4, cI, cD, hj, hj2, hw, hp, hp', q3, rCa, caDec, Ca.row, rPp, Pp.row, ppDec, rPg, Pg.row, pgDec, rI, irow, irowDec]
          done
    · rintro _ _
      by_cases ho : o = n
      · simp [Try.ntmps5, Try.results5, cSl, cp0, cp1, cp2, cp3, cp4, cI, cD, s3, s4, ho, rCa, caDec, Ca.row, rPp, Pp.row, ppDec, rPg, Pg.row, pgDec, rI, irow, irowDec, pgV]
        done
      · have s11 := s10 ho
        simp [Try.ntmps5, Try.results5, cSl, cp0, cp1, cp2, cp3, cp4, cI, cD, s9, s11, ho, rCa, caDec, Ca.row, rPp, Pp.row, ppDec, rPg, Pg.row, pgDec, rI, irow, irowDec, pgV]
        done
end Go.Proofs.Ytdhkhnegnlmgiaa
namespace Go.Proofs.Ytdhkhnegnlmgiaa
open Go.AI
set_option maxHeartbeats 2000000
set_option maxRecDepth 100000
set_option linter.unusedSimpArgs false
set_option linter.unusedVariables false
attribute [local simp] wpA wpX RunA RunD runF foot footP footB idsA bare apart runL step1 gsel_f gsel_t gsel_s res_same res_and1 res_and2 res_and3 res_and4 res_and5 res_and6 res_false res_true res_v res_ptr res_fptr res_osl res_xsl soft aAppendZ aCap ovlI ovlJ res_fsl res_esl res_agg res_tup res_fn res_junk res_anyb aPick hk imp_left iteV dstOk guardOk astep astepE AI.ev AI.look AI.put envOf aBox cellsOf allOne allOneA oneA Value.oneCell' Value.cells newObj' aFieldAddr aLoad obj readAt thenA blockA condA retA resA tupA view hot hotC hotR depthV cAgg cInt cBool mkAgg allV aAlloc aBuild fillA writeAt aStore isAggA aField idx aIndexAddr aIndex bnd aSlice aExtract aLen aBuiltin aCall isStatic eqAgg eqTy eqC ev_add ev_sub ev_mul ev_quo ev_rem ev_and ev_or ev_xor ev_andNot ev_shl ev_shr ev_eql ev_neq ev_lss ev_leq ev_gtr ev_geq ev_agg w64 wu32 wu8 ev_not ev_neg Cod.plain RCod.plain argM finM cold coldC coldR goInt intDec boolDec aggDec Weaker heapW lowA lowC Again slDec undef aBuildSlice setRows aAppend rowsOf aMakeSlice aClear aCopy softer_self softer_nil valsOf ev_min2 ev_max2 hotR_set hotR_append take_map_set irow_cold irow_mapM irow_mapMc irow_view irow_viewc irow_hotR irow_ren irow_renc irow_low WeakT heapT thOf ren renC AgainT NextF NextT fnDec cFn rNil selfLt natLt0 natLt1 getLastMap frame0 frame1 own0 own1 argG finG tau tauI tauO tauC bareA bareC bareH irow_tau irow_tauc irow_bare irow_flat irow_bareR ownA_nil ownT_nil ownA_c ownT_c ownA_s ownT_s takeMapLen footC plainA noId noIdC cloneF frame0F frame1F insertF replaceI replaceF cellDec rCell fpDec cFp rTwo deleteF allV_oA oneA_oA res_oA RunR RunE runFT footAt hotR_cat tmodN fxSz2 fxBy2 fxAg2 fxZe2 fxSl2 fxAr2 fxPl2 fxSz3 fxBy3 fxAg3 fxZe3 fxSl3 fxAr3 fxPl3 fxSz4 fxBy4 fxAg4 fxZe4 fxSl4 fxAr4 fxPl4 fxSz5 fxBy5 fxAg5 fxZe5 fxSl5 fxAr5 fxPl5 fxSz9 fxBy9 fxAg9 fxZe9 fxSl9 fxAr9 fxPl9 fxSz12 fxBy12 fxAg12 fxZe12 fxSl12 fxAr12 fxPl12 fxSz13 fxBy13 fxAg13 fxZe13 fxSl13 fxAr13 fxFi13x0 fxFi13x1 fxPl13 fxSz21 fxBy21 fxAg21 fxZe21 fxSl21 fxAr21 fxPl21 fxSz22 fxBy22 fxAg22 fxZe22 fxSl22 fxAr22 fxPl22 fxSz23 fxBy23 fxAg23 fxZe23 fxSl23 fxAr23 fxFi23x0 fxFi23x1 fxPl23 fxSz24 fxBy24 fxAg24 fxZe24 fxSl24 fxAr24 fxFi24x0 fxFi24x1 fxPl24 fxSz26 fxBy26 fxAg26 fxZe26 fxSl26 fxAr26 fxPl26 fxSz28 fxBy28 fxAg28 fxZe28 fxSl28 fxAr28 fxPl28 fxSz29 fxBy29 fxAg29 fxZe29 fxSl29 fxAr29 fxFi29x0 fxFi29x1 fxFi29x2 fxFi29x3 fxFi29x4 fxPl29 fxSz30 fxBy30 fxAg30 fxZe30 fxSl30 fxAr30 fxFi30x0 fxFi30x1 fxFi30x2 fxFi30x3 fxFi30x4 fxPl30 fxSz48 fxBy48 fxAg48 fxZe48 fxSl48 fxAr48 fxPl48 fxSz49 fxBy49 fxAg49 fxZe49 fxSl49 fxAr49 fxPl49 fxSz53 fxBy53 fxAg53 fxZe53 fxSl53 fxAr53 fxFi53x0 fxFi53x1 fxFi53x2 fxFi53x3 fxPl53 fxSz54 fxBy54 fxAg54 fxZe54 fxSl54 fxAr54 fxFi54x0 fxFi54x1 fxFi54x2 fxFi54x3 fxPl54 fxSz59 fxBy59 fxAg59 fxZe59 fxSl59 fxAr59 fxPl59 fxSz63 fxBy63 fxAg63 fxZe63 fxSl63 fxAr63 fxPl63 fxSz68 fxBy68 fxAg68 fxZe68 fxSl68 fxAr68 fxPl68 fxSz75 fxBy75 fxAg75 fxZe75 fxSl75 fxAr75 fxPl75 fxSz90 fxBy90 fxAg90 fxZe90 fxSl90 fxAr90 fxFi90x0 fxFi90x1 fxFi90x2 fxPl90 fxSz91 fxBy91 fxAg91 fxZe91 fxSl91 fxAr91 fxFi91x0 fxFi91x1 fxFi91x2 fxPl91 fxSz96 fxBy96 fxAg96 fxZe96 fxSl96 fxAr96 fxPl96 fxSz108 fxBy108 fxAg108 fxZe108 fxSl108 fxAr108 fxPl108 fxSz115 fxBy115 fxAg115 fxZe115 fxSl115 fxAr115 fxPl115 fxSz117 fxBy117 fxAg117 fxZe117 fxSl117 fxAr117 fxPl117 fxSz124 fxBy124 fxAg124 fxZe124 fxSl124 fxAr124 fxPl124 fxSz128 fxBy128 fxAg128 fxZe128 fxSl128 fxAr128 fxPl128 fxSz133 fxBy133 fxAg133 fxZe133 fxSl133 fxAr133 fxPl133 fxSz140 fxBy140 fxAg140 fxZe140 fxSl140 fxAr140 fxPl140 fxSz141 fxBy141 fxAg141 fxZe141 fxSl141 fxAr141 fxFi141x0 fxPl141 fxSz147 fxBy147 fxAg147 fxZe147 fxSl147 fxAr147 fxPl147 fxSz152 fxBy152 fxAg152 fxZe152 fxSl152 fxAr152 fxPl152 fxEq28 fxEq30 fxEq54 fxEq91 fxCv2x2 fxCv2x3 fxCv2x5 fxCv2x12 fxCv2x21 fxCv2x26 fxCv2x96 fxCv2x108 fxCv2x115 fxCv2x117 fxCv2x124 fxCv3x2 fxCv3x3 fxCv3x5 fxCv3x12 fxCv3x21 fxCv3x26 fxCv3x96 fxCv3x108 fxCv3x115 fxCv3x117 fxCv3x124 fxCv5x2 fxCv5x3 fxCv5x5 fxCv5x12 fxCv5x21 fxCv5x26 fxCv5x96 fxCv5x108 fxCv5x115 fxCv5x117 fxCv5x124 fxCv12x2 fxCv12x3 fxCv12x5 fxCv12x12 fxCv12x21 fxCv12x26 fxCv12x96 fxCv12x108 fxCv12x115 fxCv12x117 fxCv12x124 fxCv21x2 fxCv21x3 fxCv21x5 fxCv21x12 fxCv21x21 fxCv21x26 fxCv21x96 fxCv21x108 fxCv21x115 fxCv21x117 fxCv21x124 fxCv26x2 fxCv26x3 fxCv26x5 fxCv26x12 fxCv26x21 fxCv26x26 fxCv26x96 fxCv26x108 fxCv26x115 fxCv26x117 fxCv26x124 fxCv96x2 fxCv96x3 fxCv96x5 fxCv96x12 fxCv96x21 fxCv96x26 fxCv96x96 fxCv96x108 fxCv96x115 fxCv96x117 fxCv96x124 fxCv108x2 fxCv108x3 fxCv108x5 fxCv108x12 fxCv108x21 fxCv108x26 fxCv108x96 fxCv108x108 fxCv108x115 fxCv108x117 fxCv108x124 fxCv115x2 fxCv115x3 fxCv115x5 fxCv115x12 fxCv115x21 fxCv115x26 fxCv115x96 fxCv115x108 fxCv115x115 fxCv115x117 fxCv115x124 fxCv117x2 fxCv117x3 fxCv117x5 fxCv117x12 fxCv117x21 fxCv117x26 fxCv117x96 fxCv117x108 fxCv117x115 fxCv117x117 fxCv117x124 fxCv124x2 fxCv124x3 fxCv124x5 fxCv124x12 fxCv124x21 fxCv124x26 fxCv124x96 fxCv124x108 fxCv124x115 fxCv124x117 fxCv124x124 fxEb4 fxNb4 fxLt9 fxLn22 fxNe22 fxNn22 fxOe22 fxOn22 fxXe22 fxXn22 fxLn48 fxNe48 fxNn48 fxOe48 fxOn48 fxXe48 fxXn48 fxLn49 fxNe49 fxNn49 fxOe49 fxOn49 fxXe49 fxXn49 fxLn59 fxNe59 fxNn59 fxOe59 fxOn59 fxXe59 fxXn59 fxLn63 fxNe63 fxNn63 fxOe63 fxOn63 fxXe63 fxXn63 fxLn75 fxNe75 fxNn75 fxOe75 fxOn75 fxXe75 fxXn75 fxFn3 fxFm3 fxFb3 fxFi3 fxFj3 fxFn4 fxFm4 fxFb4 fxFi4 fxFj4 fxFn5 fxFm5 fxFb5 fxFi5 fxFj5 fxFn6 fxFm6 fxFb6 fxFi6 fxFj6 fxFn7 fxFm7 fxFb7 fxFi7 fxFj7 fxFn8 fxFm8 fxFb8 fxFi8 fxFj8 fxFn9 fxFm9 fxFb9 fxFi9 fxFj9 fxFn10 fxFm10 fxFb10 fxFi10 fxFj10 fxFn11 fxFm11 fxFb11 fxFi11 fxFj11 fxFn12 fxFm12 fxFb12 fxFi12 fxFj12 fxFn13 fxFm13 fxFb13 fxFi13 fxFj13 fxFn14 fxFm14 fxFb14 fxFi14 fxFj14 fxFn15 fxFm15 fxFb15 fxFi15 fxFj15 fxFn16 fxFm16 fxFb16 fxFi16 fxFj16 fxFn17 fxFm17 fxFb17 fxFi17 fxFj17 fxFn18 fxFm18 fxFb18 fxFi18 fxFj18 fxFn19 fxFm19 fxFb19 fxFi19 fxFj19 fxFn20 fxFm20 fxFb20 fxFi20 fxFj20 fxFn21 fxFm21 fxFb21 fxFi21 fxFj21 fxFn22 fxFm22 fxFb22 fxFi22 fxFj22 fxFn23 fxFm23 fxFb23 fxFi23 fxFj23 fxFn24 fxFm24 fxFb24 fxFi24 fxFj24 fxFn25 fxFm25 fxFb25 fxFi25 fxFj25 fxFn26 fxFm26 fxFb26 fxFi26 fxFj26 fxFn27 fxFm27 fxFb27 fxFi27 fxFj27 fxFn28 fxFm28 fxFb28 fxFi28 fxFj28 fxFn29 fxFm29 fxFb29 fxFi29 fxFj29 fxFn30 fxFm30 fxFb30 fxFi30 fxFj30 fxFn31 fxFm31 fxFb31 fxFi31 fxFj31 fxFn32 fxFm32 fxFb32 fxFi32 fxFj32 fxFn33 fxFm33 fxFb33 fxFi33 fxFj33 fxFn34 fxFm34 fxFb34 fxFi34 fxFj34 fxFn35 fxFm35 fxFb35 fxFi35 fxFj35 fxFn36 fxFm36 fxFb36 fxFi36 fxFj36 fxFn37 fxFm37 fxFb37 fxFi37 fxFj37 fxFn38 fxFm38 fxFb38 fxFi38 fxFj38 fxFn39 fxFm39 fxFb39 fxFi39 fxFj39 fxFn40 fxFm40 fxFb40 fxFi40 fxFj40 fxFn41 fxFm41 fxFb41 fxFi41 fxFj41 fxFn42 fxFm42 fxFb42 fxFi42 fxFj42 fxFn43 fxFm43 fxFb43 fxFi43 fxFj43 fxFn44 fxFm44 fxFb44 fxFi44 fxFj44 fxFn45 fxFm45 fxFb45 fxFi45 fxFj45 fxFn46 fxFm46 fxFb46 fxFi46 fxFj46 fxFn47 fxFm47 fxFb47 fxFi47 fxFj47 fxFn48 fxFm48 fxFb48 fxFi48 fxFj48 fxFn49 fxFm49 fxFb49 fxFi49 fxFj49 fxFn50 fxFm50 fxFb50 fxFi50 fxFj50 fxFn51 fxFm51 fxFb51 fxFi51 fxFj51 fxFn52 fxFm52 fxFb52 fxFi52 fxFj52 fxFn53 fxFm53 fxFb53 fxFi53 fxFj53 fxFn54 fxFm54 fxFb54 fxFi54 fxFj54 fxFn55 fxFm55 fxFb55 fxFi55 fxFj55 fxFn56 fxFm56 fxFb56 fxFi56 fxFj56 fxFn57 fxFm57 fxFb57 fxFi57 fxFj57 fxFn58 fxFm58 fxFb58 fxFi58 fxFj58 fxFn59 fxFm59 fxFb59 fxFi59 fxFj59 fxFn60 fxFm60 fxFn61 fxFm61 fxFb61 fxFi61 fxFj61 fxFn62 fxFm62 fxFb62 fxFi62 fxFj62 fxFn63 fxFm63 fxFb63 fxFi63 fxFj63 fxFn64 fxFm64 fxFb64 fxFi64 fxFj64 fxFn65 fxFm65 fxFb65 fxFi65 fxFj65 fxFn66 fxFm66 fxFb66 fxFi66 fxFj66 fxFn67 fxFm67 fxFb67 fxFi67 fxFj67 fxFn68 fxFm68 fxFb68 fxFi68 fxFj68 fxFn69 fxFm69 fxFb69 fxFi69 fxFj69 fxFn70 fxFm70 fxFb70 fxFi70 fxFj70 fxFn71 fxFm71 fxFb71 fxFi71 fxFj71 fxFn72 fxFm72 fxFb72 fxFi72 fxFj72 fxFn73 fxFm73 fxFb73 fxFi73 fxFj73 fxFn74 fxFm74 fxFb74 fxFi74 fxFj74 fxFn75 fxFm75 fxFb75 fxFi75 fxFj75 fxFn76 fxFm76 fxFb76 fxFi76 fxFj76 fxFn77 fxFm77 fxFb77 fxFi77 fxFj77 fxFn78 fxFm78 fxFb78 fxFi78 fxFj78 fxFn79 fxFm79 fxFb79 fxFi79 fxFj79 fxFn80 fxFm80 fxFb80 fxFi80 fxFj80 fxFn81 fxFm81 fxFb81 fxFi81 fxFj81 fxFn82 fxFm82 fxFb82 fxFi82 fxFj82 fxFn83 fxFm83 fxFb83 fxFi83 fxFj83 fxFn84 fxFm84 fxFb84 fxFi84 fxFj84 fxFn85 fxFm85 fxFb85 fxFi85 fxFj85 fxFn86 fxFm86 fxFb86 fxFi86 fxFj86 fxFn87 fxFm87 fxFb87 fxFi87 fxFj87 fxFn88 fxFm88 fxFb88 fxFi88 fxFj88 fxFn89 fxFm89 fxFb89 fxFi89 fxFj89 fxFn90 fxFm90 fxFb90 fxFi90 fxFj90 fxFn91 fxFm91 fxFb91 fxFi91 fxFj91 fxFn92 fxFm92 fxFb92 fxFi92 fxFj92 fxFn93 fxFm93 fxFb93 fxFi93 fxFj93 fxFn94 fxFm94 fxFb94 fxFi94 fxFj94 fxFn95 fxFm95 fxFb95 fxFi95 fxFj95 fxFn96 fxFm96 fxFb96 fxFi96 fxFj96 fxFn97 fxFm97 fxFb97 fxFi97 fxFj97 fxFn98 fxFm98 fxFb98 fxFi98 fxFj98 fxFn99 fxFm99 fxFb99 fxFi99 fxFj99 fxFn100 fxFm100 fxFb100 fxFi100 fxFj100 fxFn101 fxFm101 fxFb101 fxFi101 fxFj101
attribute [local simp] Pg.eta Pg.cold Pg.mapM Pg.mapMc Pg.view Pg.viewc Pg.hotR Pg.ren Pg.renc Pg.low Pg.tau Pg.tauc Pg.bare Pg.flat Pg.flat1 Pg.mapMt Pg.mapMd Pg.coldt Pg.coldd Pg.hotRt Pg.hotRd
attribute [local simp] Pp.eta Pp.cold Pp.mapM Pp.mapMc Pp.view Pp.viewc Pp.hotR Pp.ren Pp.renc Pp.low Pp.tau Pp.tauc Pp.bare Pp.flat Pp.flat1 Pp.mapMt Pp.mapMd Pp.coldt Pp.coldd Pp.hotRt Pp.hotRd
attribute [local simp] Ca.eta Ca.dec_row Ca.dec_hrow Ca.cold Ca.hcold Ca.mapM Ca.mapMc Ca.hmapM Ca.hmapMc Ca.view Ca.viewc Ca.hview Ca.hviewc Ca.hotR Ca.ren Ca.renc Ca.low Ca.hlow
theorem countP_take {l : List Pp} {k : Nat} (hk : k < l.length) : nD (l.take (k + 1)) = nD (l.take k) + (if 0 < l[k].dirty then 1 else 0) := by
  unfold nD
  rw [List.take_succ_eq_append_getElem hk, List.countP_append]
  simp
theorem nD_le (l : List Pp) : nD l ≤ l.length := List.countP_le_length
theorem ent_cold {ρ : Env} {x0 : Option (Nat × List Row)} {L : List Pp} {T : Int} {S : Heap} : Ent 0 (ρ, x0 :: some (2, [[.fsl false 20 (L.map Pp.row), .v (.int .i64 T)]]) :: S) (ρ, x0 :: some (2, [[.fsl true 20 (L.map Pp.row), .v (.int .i64 T)]]) :: S) := by
  have h := Ent.coldRow (n0 := 0) (ρ := ρ) (H := x0 :: some (2, [[.fsl true 20 (L.map Pp.row), .v (.int .i64 T)]]) :: S) (M := 1) (i := 0) (szM := 2) (row := [.fsl true 20 (L.map Pp.row), .v (.int .i64 T)]) rfl rfl
  simpa [coldC, cold] using h
theorem ent_esl {ρ : Env} {x0 : Option (Nat × List Row)} {T : Int} {S : Heap} : Ent 0 (ρ, x0 :: some (2, [[.fsl false 20 [], .v (.int .i64 T)]]) :: S) (ρ, x0 :: some (2, [[.esl, .v (.int .i64 T)]]) :: S) := by
  have h := Ent.cell (n0 := 0) (ρ := ρ) (H := x0 :: some (2, [[.esl, .v (.int .i64 T)]]) :: S) (M := 1) (i := 0) (j := 0) (szM := 2) (a := .esl) (r := .fsl false 20 []) rfl rfl rfl .esl
  simpa using h
theorem Chain.zero {c a : Ca} {k : Int} (h : Chain c a k) : Chain c a 0 := ⟨h.good, h.len, h.same, fun _ _ h => h⟩
theorem backs_pure : PureOk Try.prog 3 (argM (cAgg rCa) fun c => finM (some (.v (.bool true)))) := by
  refine pure1 Try.func3 rfl ?_
  rintro c r hr
  simp only [Option.some.injEq] at hr
  subst hr
  refine body_gen ((((noOrc_ok.withP caches_pure).withP caCheck_pure).withP back_pure).withD (fun i => if i = 17 then [(2,3)] else [])) fxMix (by kernel_rfl) (by simp [Try.ntmps3]) ?_
  intro C cP cI cN cD cF cA
  have cp0 := orcP caches_pure (C := C) (by rw [cP]; rfl)
  have cp1 := orcP caCheck_pure (C := C) (by rw [cP]; rfl)
  have cp2 := orcP back_pure (C := C) (by rw [cP]; rfl)
  replace cI : C.inl = fun _ => false := cI
  replace cD : C.dyn = fun i => if i = 17 then [(2,3)] else [] := cD
  replace cF := fun g => congrFun cF g
  simp only [Orc.withP, Orc.withI, Orc.withF, Orc.withD, Orc.withA, noOrc] at cF
  replace cA : C.alt = fun _ => [] := cA
  clear cP cN
  by_cases h0 : caCheck c = 0
  case neg =>
    obtain ⟨l, T⟩ := c
    simp [Try.ntmps3, Try.results3, cSl, cp0, cp1, cp2, cI, cD, cF, cA, rCa, caDec, Ca.row, rPp, ppDec, h0]
    done
  have g := caCheck_iff.1 h0
  have hl := g.len
  obtain ⟨l, T⟩ := c
  simp only at hl
  simp [Try.ntmps3, Try.results3, cSl, cp0, cp1, cp2, cI, cD, cF, cA, rCa, caDec, Ca.row, rPp, ppDec, h0]
  refine loop_for l.length (fun k (_ : Unit) => ([(1, .ptr 0 2 0 0), (3, .v (.int .i64 0)), (4, .v (.int .i64 (nD (l.take k)))), (24, .fsl false 20 (l.map Pp.row)), (25, .v (.int .i64 l.length)), (26, .v (.int .i64 k))], [some (2, [[.fsl false 20 (l.map Pp.row), .v (.int .i64 T)]])])) (fun _ _ => True) () (by omega) trivial (by simp [nD]) ?_ ?_
  · rintro k _ hk _ hw
    have hn := countP_take hk
    have hn2 := nD_le (l.take k)
    simp only [List.length_take] at hn2
    have hw2 : IntKind.i64.wrap ((nD (l.take k) : Int) + 1) = (nD (l.take k) : Int) + 1 := w64 (by omega) (by omega)
    by_cases d0 : 0 < l[k].dirty
    · rw [if_pos d0] at hn
      simp [Try.ntmps3, Try.results3, cSl, cp0, cp1, cp2, cI, cD, cF, cA, hk, hw, hw2, d0, hn, Pp.row]
      done
    · rw [if_neg d0] at hn
      simp [Try.ntmps3, Try.results3, cSl, cp0, cp1, cp2, cI, cD, cF, cA, hk, hw, d0, hn, Pp.row]
      done
  · rintro _ _
    rw [List.take_length]
    have hn2 := nD_le l
    have hw2 : IntKind.i64.wrap ((nD l : Int) + 1) = ((nD l + 1 : Nat) : Int) := by rw [w64 (by omega) (by omega)]; omega
    simp [Try.ntmps3, Try.results3, cSl, cp0, cp1, cp2, cI, cD, cF, cA, hw2]
    refine loop_forE (nD l + 1) (fun k (p : Ca × Int) => ([(1, .ptr 0 2 0 0), (3, .v (.int .i64 p.2)), (4, .v (.int .i64 (nD l))), (7, .ptr 1 2 0 0), (38, .v (.int .i64 ((nD l + 1 : Nat) : Int))), (39, .v (.int .i64 k))], [some (2, [[.fsl false 20 (l.map Pp.row), .v (.int .i64 T)]]), some (2, [[.fsl false 20 (p.1.pages.map Pp.row), .v (.int .i64 p.1.clock)]])])) (fun k p => Chain ⟨l, T⟩ p.1 0 ∧ (k ≤ nD l → Chain ⟨l, T⟩ p.1 p.2) ∧ nD p.1.pages = nD l - k) (⟨l, T⟩, 0) (by rintro k _ h _; omega) ⟨Chain.start g, fun _ => Chain.start g, by simp⟩ ?_ ?_ ?_
    · refine .weak ?_
      simp
    · rintro k ⟨a, last⟩ hk ⟨i1, i2, i3⟩ hw
      have hca := caCheck_iff.2 i1.good
      have hkk : (k : Int) < (nD l : Int) + 1 := by omega
      by_cases hlt : k < nD l
      · have hlt' : (k : Int) < nD l := by omega
        obtain ⟨i, hb⟩ := nD_some (l := a.pages) (by simp only at i3; omega)
        obtain ⟨hi, b1, b2, b3, b4⟩ := (i2 (by omega)).step hb
        have hbk : backE a = .tup [caV (a.pages.set i (cleanP a.pages[i])) a.clock, .v (ppV a.pages[i]), .v (.bool true), .v (.int .i64 0)] := by
          unfold backE; rw [if_pos hca, hb]; simp [hi]
        obtain ⟨L, T2⟩ := a
        simp only at i1 i2 i3 hi b1 b2 b3 b4 hbk
        have b1' : ¬ L[i].dirty ≤ last := by omega
        obtain ⟨M, hM⟩ : ∃ M, M = L.set i (cleanP L[i]) := ⟨_, rfl⟩
        rw [← hM] at hbk b3 b4
        simp [Try.ntmps3, Try.results3, cSl, cp0, cp1, cp2, cI, cD, cF, cA, hk, hkk, hw, hlt, hlt', hbk, caV, ppV, b1', rCa, caDec, Ca.row, rPp, Pp.row, ppDec]
        refine ⟨(⟨M, T2⟩, L[i].dirty), ⟨b3.zero, fun _ => b3, by simp only; omega⟩, .trans (.weak ?_) ent_cold⟩
        simp
        done
      · have hlt' : ¬ (k : Int) < nD l := by omega
        have hb := nD_none (l := a.pages) (by simp only at i3; omega)
        have hbk : backE a = .tup [.agg [if a.pages = [] then .esl else .fsl true 20 (a.pages.map Pp.row), .v (.int .i64 a.clock)], .v (ppV noPp), .v (.bool false), .v (.int .i64 0)] := by
          unfold backE; rw [if_pos hca, hb]
        obtain ⟨L, T2⟩ := a
        simp only at i1 i2 i3 hbk
        by_cases hL : L = []
        · subst hL
          simp [Try.ntmps3, Try.results3, cSl, cp0, cp1, cp2, cI, cD, cF, cA, hk, hkk, hw, hlt, hlt', hbk, ppV, noPp, noPg, rCa, caDec, Ca.row, rPp, Pp.row, ppDec]
          refine ⟨(⟨[], T2⟩, 0), ⟨i1, fun h => absurd h (by omega), by simp only; omega⟩, .trans (.weak ?_) ent_esl⟩
          simp
          done
        · simp [Try.ntmps3, Try.results3, cSl, cp0, cp1, cp2, cI, cD, cF, cA, hk, hkk, hw, hlt, hlt', hbk, hL, ppV, noPp, noPg, rCa, caDec, Ca.row, rPp, Pp.row, ppDec]
          refine ⟨(⟨L, T2⟩, 0), ⟨i1, fun h => absurd h (by omega), by simp only; omega⟩, .trans (.weak ?_) ent_cold⟩
          simp
          done
    · rintro ⟨a, last⟩ ⟨i1, i2, i3⟩
      have hz : nD a.pages = 0 := by simp only at i3; omega
      have hd0 := nD_zero hz i1.good.each
      have hll := i1.len
      have hsm := i1.same
      obtain ⟨L, T2⟩ := a
      simp only at hll hsm hd0
      simp [Try.ntmps3, Try.results3, cSl, cp0, cp1, cp2, cI, cD, cF, cA, rCa, caDec, Ca.row, rPp, Pp.row, ppDec]
      refine loop_for L.length (fun k (_ : Unit) => ([(1, .ptr 0 2 0 0), (7, .ptr 1 2 0 0), (72, .fsl false 20 (L.map Pp.row)), (73, .v (.int .i64 L.length)), (74, .v (.int .i64 k))], [some (2, [[.fsl false 20 (l.map Pp.row), .v (.int .i64 T)]]), some (2, [[.fsl false 20 (L.map Pp.row), .v (.int .i64 T2)]])])) (fun _ _ => True) () (by omega) trivial (by simp) ?_ ?_
      · rintro k _ hk _ hw
        have hk2 : k < l.length := by omega
        have hk3 : ¬ (l.length : Int) ≤ k := by omega
        obtain ⟨e1, e2⟩ := hsm k hk hk2
        have e3 := hd0 _ (List.getElem_mem hk)
        have hpg := pg_eq L[k].data l[k].data
        have e4 := hpg.1 e1
        simp [Try.ntmps3, Try.results3, cSl, cp0, cp1, cp2, cI, cD, cF, cA, hk, hk2, hk3, hw, e2, e3, e4, rCa, caDec, Ca.row, rPp, Pp.row, ppDec]
        done
      · rintro _ _
        simp [Try.ntmps3, Try.results3, cSl, cp0, cp1, cp2, cI, cD, cF, cA, hll, rCa, caDec, Ca.row, rPp, Pp.row, ppDec]
        done
end Go.Proofs.Ytdhkhnegnlmgiaa
