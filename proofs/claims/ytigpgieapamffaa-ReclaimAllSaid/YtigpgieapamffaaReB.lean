/- Package reclaim: Check, Put, Next. -/
import Derived.Test.YtigpgieapamffaaReA
namespace Go.Proofs.Ytigpgieapamffaa
open Go.AI
set_option maxHeartbeats 2000000
set_option maxRecDepth 100000
set_option linter.unusedSimpArgs false
set_option linter.unusedVariables false
attribute [local simp] wpA wpX RunA RunD runF foot footP footB idsA bare apart runL step1 gsel_f gsel_t gsel_s res_same res_and1 res_and2 res_and3 res_and4 res_and5 res_and6 res_false res_true res_v res_ptr res_fptr res_osl res_xsl soft aAppendZ aCap ovlI ovlJ res_fsl res_esl res_agg res_tup res_fn res_junk res_anyb aPick hk imp_left iteV dstOk guardOk astep astepE AI.ev AI.look AI.put envOf aBox cellsOf allOne allOneA oneA Value.oneCell' Value.cells newObj' aFieldAddr aLoad obj readAt thenA blockA condA retA resA tupA view hot hotC hotR depthV cAgg cInt cBool mkAgg allV aAlloc aBuild fillA writeAt aStore isAggA aField idx aIndexAddr aIndex bnd aSlice aExtract aLen aBuiltin aCall isStatic eqAgg eqTy eqC ev_add ev_sub ev_mul ev_quo ev_rem ev_and ev_or ev_xor ev_andNot ev_shl ev_shr ev_eql ev_neq ev_lss ev_leq ev_gtr ev_geq ev_agg w64 wu32 wu8 ev_not ev_neg Cod.plain RCod.plain argM finM cold coldC coldR goInt intDec boolDec aggDec Weaker heapW lowA lowC Again slDec undef aBuildSlice setRows aAppend rowsOf aMakeSlice aClear aCopy softer_self softer_nil valsOf ev_min2 ev_max2 hotR_set hotR_append take_map_set irow_cold irow_mapM irow_mapMc irow_view irow_viewc irow_hotR irow_ren irow_renc irow_low WeakT heapT thOf ren renC AgainT NextF NextT fnDec cFn rNil selfLt natLt0 natLt1 getLastMap frame0 frame1 own0 own1 argG finG tau tauI tauO tauC bareA bareC bareH irow_tau irow_tauc irow_bare irow_flat irow_bareR ownA_nil ownT_nil ownA_c ownT_c ownA_s ownT_s takeMapLen footC plainA noId noIdC cloneF frame0F frame1F insertF replaceI replaceF cellDec rCell fpDec cFp rTwo deleteF allV_oA oneA_oA res_oA RunR RunE runFT footAt hotR_cat tmodN fxSz2 fxBy2 fxAg2 fxZe2 fxSl2 fxAr2 fxPl2 fxSz3 fxBy3 fxAg3 fxZe3 fxSl3 fxAr3 fxPl3 fxSz4 fxBy4 fxAg4 fxZe4 fxSl4 fxAr4 fxPl4 fxSz5 fxBy5 fxAg5 fxZe5 fxSl5 fxAr5 fxPl5 fxSz9 fxBy9 fxAg9 fxZe9 fxSl9 fxAr9 fxPl9 fxSz12 fxBy12 fxAg12 fxZe12 fxSl12 fxAr12 fxPl12 fxSz13 fxBy13 fxAg13 fxZe13 fxSl13 fxAr13 fxFi13x0 fxFi13x1 fxPl13 fxSz21 fxBy21 fxAg21 fxZe21 fxSl21 fxAr21 fxPl21 fxSz22 fxBy22 fxAg22 fxZe22 fxSl22 fxAr22 fxPl22 fxSz23 fxBy23 fxAg23 fxZe23 fxSl23 fxAr23 fxFi23x0 fxFi23x1 fxPl23 fxSz24 fxBy24 fxAg24 fxZe24 fxSl24 fxAr24 fxFi24x0 fxFi24x1 fxPl24 fxSz25 fxBy25 fxAg25 fxZe25 fxSl25 fxAr25 fxPl25 fxSz29 fxBy29 fxAg29 fxZe29 fxSl29 fxAr29 fxFi29x0 fxFi29x1 fxFi29x2 fxPl29 fxSz30 fxBy30 fxAg30 fxZe30 fxSl30 fxAr30 fxFi30x0 fxFi30x1 fxFi30x2 fxPl30 fxSz38 fxBy38 fxAg38 fxZe38 fxSl38 fxAr38 fxPl38 fxSz46 fxBy46 fxAg46 fxZe46 fxSl46 fxAr46 fxPl46 fxSz47 fxBy47 fxAg47 fxZe47 fxSl47 fxAr47 fxFi47x0 fxFi47x1 fxFi47x2 fxPl47 fxSz48 fxBy48 fxAg48 fxZe48 fxSl48 fxAr48 fxFi48x0 fxFi48x1 fxFi48x2 fxPl48 fxSz66 fxBy66 fxAg66 fxZe66 fxSl66 fxAr66 fxPl66 fxSz74 fxBy74 fxAg74 fxZe74 fxSl74 fxAr74 fxPl74 fxSz79 fxBy79 fxAg79 fxZe79 fxSl79 fxAr79 fxPl79 fxSz91 fxBy91 fxAg91 fxZe91 fxSl91 fxAr91 fxPl91 fxSz92 fxBy92 fxAg92 fxZe92 fxSl92 fxAr92 fxPl92 fxSz99 fxBy99 fxAg99 fxZe99 fxSl99 fxAr99 fxPl99 fxSz105 fxBy105 fxAg105 fxZe105 fxSl105 fxAr105 fxPl105 fxSz107 fxBy107 fxAg107 fxZe107 fxSl107 fxAr107 fxPl107 fxSz113 fxBy113 fxAg113 fxZe113 fxSl113 fxAr113 fxPl113 fxSz117 fxBy117 fxAg117 fxZe117 fxSl117 fxAr117 fxPl117 fxSz126 fxBy126 fxAg126 fxZe126 fxSl126 fxAr126 fxPl126 fxSz136 fxBy136 fxAg136 fxZe136 fxSl136 fxAr136 fxPl136 fxSz137 fxBy137 fxAg137 fxZe137 fxSl137 fxAr137 fxFi137x0 fxPl137 fxSz143 fxBy143 fxAg143 fxZe143 fxSl143 fxAr143 fxPl143 fxSz148 fxBy148 fxAg148 fxZe148 fxSl148 fxAr148 fxPl148 fxEq30 fxEq48 fxEq92 fxCv2x2 fxCv2x3 fxCv2x5 fxCv2x12 fxCv2x21 fxCv2x25 fxCv2x79 fxCv2x99 fxCv2x105 fxCv2x107 fxCv2x113 fxCv3x2 fxCv3x3 fxCv3x5 fxCv3x12 fxCv3x21 fxCv3x25 fxCv3x79 fxCv3x99 fxCv3x105 fxCv3x107 fxCv3x113 fxCv5x2 fxCv5x3 fxCv5x5 fxCv5x12 fxCv5x21 fxCv5x25 fxCv5x79 fxCv5x99 fxCv5x105 fxCv5x107 fxCv5x113 fxCv12x2 fxCv12x3 fxCv12x5 fxCv12x12 fxCv12x21 fxCv12x25 fxCv12x79 fxCv12x99 fxCv12x105 fxCv12x107 fxCv12x113 fxCv21x2 fxCv21x3 fxCv21x5 fxCv21x12 fxCv21x21 fxCv21x25 fxCv21x79 fxCv21x99 fxCv21x105 fxCv21x107 fxCv21x113 fxCv25x2 fxCv25x3 fxCv25x5 fxCv25x12 fxCv25x21 fxCv25x25 fxCv25x79 fxCv25x99 fxCv25x105 fxCv25x107 fxCv25x113 fxCv79x2 fxCv79x3 fxCv79x5 fxCv79x12 fxCv79x21 fxCv79x25 fxCv79x79 fxCv79x99 fxCv79x105 fxCv79x107 fxCv79x113 fxCv99x2 fxCv99x3 fxCv99x5 fxCv99x12 fxCv99x21 fxCv99x25 fxCv99x79 fxCv99x99 fxCv99x105 fxCv99x107 fxCv99x113 fxCv105x2 fxCv105x3 fxCv105x5 fxCv105x12 fxCv105x21 fxCv105x25 fxCv105x79 fxCv105x99 fxCv105x105 fxCv105x107 fxCv105x113 fxCv107x2 fxCv107x3 fxCv107x5 fxCv107x12 fxCv107x21 fxCv107x25 fxCv107x79 fxCv107x99 fxCv107x105 fxCv107x107 fxCv107x113 fxCv113x2 fxCv113x3 fxCv113x5 fxCv113x12 fxCv113x21 fxCv113x25 fxCv113x79 fxCv113x99 fxCv113x105 fxCv113x107 fxCv113x113 fxEb4 fxNb4 fxLt9 fxLn22 fxNe22 fxNn22 fxOe22 fxOn22 fxXe22 fxXn22 fxLn38 fxNe38 fxNn38 fxOe38 fxOn38 fxXe38 fxXn38 fxLn46 fxNe46 fxNn46 fxOe46 fxOn46 fxXe46 fxXn46 fxLn74 fxNe74 fxNn74 fxOe74 fxOn74 fxXe74 fxXn74 fxFn3 fxFm3 fxFb3 fxFi3 fxFj3 fxFn4 fxFm4 fxFb4 fxFi4 fxFj4 fxFn5 fxFm5 fxFb5 fxFi5 fxFj5 fxFn6 fxFm6 fxFb6 fxFi6 fxFj6 fxFn7 fxFm7 fxFb7 fxFi7 fxFj7 fxFn8 fxFm8 fxFb8 fxFi8 fxFj8 fxFn9 fxFm9 fxFb9 fxFi9 fxFj9 fxFn10 fxFm10 fxFb10 fxFi10 fxFj10 fxFn11 fxFm11 fxFb11 fxFi11 fxFj11 fxFn12 fxFm12 fxFb12 fxFi12 fxFj12 fxFn13 fxFm13 fxFb13 fxFi13 fxFj13 fxFn14 fxFm14 fxFb14 fxFi14 fxFj14 fxFn15 fxFm15 fxFb15 fxFi15 fxFj15 fxFn16 fxFm16 fxFb16 fxFi16 fxFj16 fxFn17 fxFm17 fxFb17 fxFi17 fxFj17 fxFn18 fxFm18 fxFb18 fxFi18 fxFj18 fxFn19 fxFm19 fxFb19 fxFi19 fxFj19 fxFn20 fxFm20 fxFb20 fxFi20 fxFj20 fxFn21 fxFm21 fxFb21 fxFi21 fxFj21 fxFn22 fxFm22 fxFb22 fxFi22 fxFj22 fxFn23 fxFm23 fxFb23 fxFi23 fxFj23 fxFn24 fxFm24 fxFb24 fxFi24 fxFj24 fxFn25 fxFm25 fxFb25 fxFi25 fxFj25 fxFn26 fxFm26 fxFb26 fxFi26 fxFj26 fxFn27 fxFm27 fxFb27 fxFi27 fxFj27 fxFn28 fxFm28 fxFb28 fxFi28 fxFj28 fxFn29 fxFm29 fxFb29 fxFi29 fxFj29 fxFn30 fxFm30 fxFb30 fxFi30 fxFj30 fxFn31 fxFm31 fxFb31 fxFi31 fxFj31 fxFn32 fxFm32 fxFb32 fxFi32 fxFj32 fxFn33 fxFm33 fxFb33 fxFi33 fxFj33 fxFn34 fxFm34 fxFb34 fxFi34 fxFj34 fxFn35 fxFm35 fxFb35 fxFi35 fxFj35 fxFn36 fxFm36 fxFb36 fxFi36 fxFj36 fxFn37 fxFm37 fxFb37 fxFi37 fxFj37 fxFn38 fxFm38 fxFb38 fxFi38 fxFj38 fxFn39 fxFm39 fxFb39 fxFi39 fxFj39 fxFn40 fxFm40 fxFb40 fxFi40 fxFj40 fxFn41 fxFm41 fxFb41 fxFi41 fxFj41 fxFn42 fxFm42 fxFb42 fxFi42 fxFj42 fxFn43 fxFm43 fxFb43 fxFi43 fxFj43 fxFn44 fxFm44 fxFb44 fxFi44 fxFj44 fxFn45 fxFm45 fxFb45 fxFi45 fxFj45 fxFn46 fxFm46 fxFb46 fxFi46 fxFj46 fxFn47 fxFm47 fxFb47 fxFi47 fxFj47 fxFn48 fxFm48 fxFb48 fxFi48 fxFj48 fxFn49 fxFm49 fxFb49 fxFi49 fxFj49 fxFn50 fxFm50 fxFb50 fxFi50 fxFj50 fxFn51 fxFm51 fxFb51 fxFi51 fxFj51 fxFn52 fxFm52 fxFb52 fxFi52 fxFj52 fxFn53 fxFm53 fxFb53 fxFi53 fxFj53 fxFn54 fxFm54 fxFb54 fxFi54 fxFj54 fxFn55 fxFm55 fxFb55 fxFi55 fxFj55 fxFn56 fxFm56 fxFb56 fxFi56 fxFj56 fxFn57 fxFm57 fxFb57 fxFi57 fxFj57 fxFn58 fxFm58 fxFb58 fxFi58 fxFj58 fxFn59 fxFm59 fxFb59 fxFi59 fxFj59 fxFn60 fxFm60 fxFb60 fxFi60 fxFj60 fxFn61 fxFm61 fxFb61 fxFi61 fxFj61 fxFn62 fxFm62 fxFb62 fxFi62 fxFj62 fxFn63 fxFm63 fxFb63 fxFi63 fxFj63 fxFn64 fxFm64 fxFb64 fxFi64 fxFj64 fxFn65 fxFm65 fxFb65 fxFi65 fxFj65 fxFn66 fxFm66 fxFb66 fxFi66 fxFj66 fxFn67 fxFm67 fxFb67 fxFi67 fxFj67 fxFn68 fxFm68 fxFb68 fxFi68 fxFj68 fxFn69 fxFm69 fxFb69 fxFi69 fxFj69 fxFn70 fxFm70 fxFn71 fxFm71 fxFb71 fxFi71 fxFj71 fxFn72 fxFm72 fxFb72 fxFi72 fxFj72 fxFn73 fxFm73 fxFb73 fxFi73 fxFj73 fxFn74 fxFm74 fxFb74 fxFi74 fxFj74 fxFn75 fxFm75 fxFb75 fxFi75 fxFj75 fxFn76 fxFm76 fxFb76 fxFi76 fxFj76 fxFn77 fxFm77 fxFb77 fxFi77 fxFj77 fxFn78 fxFm78 fxFb78 fxFi78 fxFj78 fxFn79 fxFm79 fxFb79 fxFi79 fxFj79 fxFn80 fxFm80 fxFb80 fxFi80 fxFj80 fxFn81 fxFm81 fxFb81 fxFi81 fxFj81 fxFn82 fxFm82 fxFb82 fxFi82 fxFj82 fxFn83 fxFm83 fxFb83 fxFi83 fxFj83 fxFn84 fxFm84 fxFb84 fxFi84 fxFj84 fxFn85 fxFm85 fxFb85 fxFi85 fxFj85 fxFn86 fxFm86 fxFb86 fxFi86 fxFj86 fxFn87 fxFm87 fxFb87 fxFi87 fxFj87 fxFn88 fxFm88 fxFb88 fxFi88 fxFj88 fxFn89 fxFm89 fxFn90 fxFm90 fxFb90 fxFi90 fxFj90 fxFn91 fxFm91 fxFb91 fxFi91 fxFj91 fxFn92 fxFm92 fxFb92 fxFi92 fxFj92 fxFn93 fxFm93 fxFb93 fxFi93 fxFj93 fxFn94 fxFm94 fxFb94 fxFi94 fxFj94 fxFn95 fxFm95 fxFb95 fxFi95 fxFj95 fxFn96 fxFm96 fxFb96 fxFi96 fxFj96 fxFn97 fxFm97 fxFb97 fxFi97 fxFj97 fxFn98 fxFm98 fxFb98 fxFi98 fxFj98 fxFn99 fxFm99 fxFb99 fxFi99 fxFj99 fxFn100 fxFm100 fxFb100 fxFi100 fxFj100 fxFn101 fxFm101 fxFb101 fxFi101 fxFj101 fxFn102 fxFm102 fxFb102 fxFi102 fxFj102 fxFn103 fxFm103 fxFb103 fxFi103 fxFj103 fxFn104 fxFm104 fxFb104 fxFi104 fxFj104 fxFn105 fxFm105 fxFb105 fxFi105 fxFj105 fxFn106 fxFm106 fxFb106 fxFi106 fxFj106 fxFn107 fxFm107 fxFb107 fxFi107 fxFj107 fxFn108 fxFm108 fxFb108 fxFi108 fxFj108 fxFn109 fxFm109 fxFb109 fxFi109 fxFj109 fxFn110 fxFm110 fxFb110 fxFi110 fxFj110 fxFn111 fxFm111 fxFb111 fxFi111 fxFj111 fxFn112 fxFm112 fxFb112 fxFi112 fxFj112 fxFn113 fxFm113 fxFb113 fxFi113 fxFj113 fxFn114 fxFm114 fxFb114 fxFi114 fxFj114
attribute [local simp] Item.eta Item.cold Item.mapM Item.mapMc Item.view Item.viewc Item.hotR Item.ren Item.renc Item.low Item.tau Item.tauc Item.bare Item.flat Item.flat1 Item.mapMt Item.mapMd Item.coldt Item.coldd Item.hotRt Item.hotRd
attribute [local simp] Clk.eta Clk.dec_row Clk.dec_hrow Clk.cold Clk.hcold Clk.mapM Clk.mapMc Clk.hmapM Clk.hmapMc Clk.view Clk.viewc Clk.hview Clk.hviewc Clk.hotR Clk.ren Clk.renc Clk.low Clk.hlow
def ids (l : List Item) : List Int := l.map (·.id)
def clkCheck (c : Clk) : Int := if 64 < c.items.length then 2 else if c.hand < 0 ∨ max 0 ((c.items.length : Int) - 1) < c.hand then 1 else if (ids c.items).Nodup then 0 else 5
theorem findIt_iff (l : List Item) (id : Int) : 0 ≤ findIt l id ↔ id ∈ ids l := by
  rw [findIt, idxP_iff]
  simp [ids]
theorem nodup_take {l : List Item} {k : Nat} (hk : k < l.length) : (ids (l.take (k + 1))).Nodup ↔ (ids (l.take k)).Nodup ∧ l[k].id ∉ ids (l.take k) := by
  rw [List.take_succ_eq_append_getElem hk, ids, List.map_append, List.nodup_append]
  simp only [List.map_cons, List.map_nil, List.mem_singleton]
  constructor
  · rintro ⟨h1, _, h3⟩; exact ⟨h1, fun h => h3 _ h _ rfl rfl⟩
  · rintro ⟨h1, h2⟩; exact ⟨h1, by simp, fun a ha b hb hab => h2 (by rw [← hb, ← hab]; exact ha)⟩
theorem nodup_sub {l : List Item} {k : Nat} (h : (ids l).Nodup) : (ids (l.take k)).Nodup := by
  rw [ids, List.map_take]
  exact h.sublist (List.take_sublist _ _)
theorem clkCheck_pure : PureOk Try.prog 17 (argM (cAgg rClk) fun c => finM (some (.v (.int .i64 (clkCheck c))))) := by
  refine pure1 Try.func17 rfl ?_
  rintro c r hr
  simp only [Option.some.injEq] at hr
  subst hr
  refine body_gen (noOrc_ok.withP find_pure) fxMix (by kernel_rfl) (by simp [Try.ntmps17]) ?_
  intro C cP cI cN cD cF cA
  have cp0 := orcP find_pure (C := C) (by rw [cP]; rfl)
  replace cI : C.inl = fun _ => false := cI
  replace cD : C.dyn = fun _ => [] := cD
  clear cP cN cF cA
  obtain ⟨l, h⟩ := c
  unfold clkCheck
  simp only
  by_cases h1 : 64 < l.length
  · have h1' : 64 < (l.length : Int) := by omega
    simp [Try.ntmps17, Try.results17, cSl, cp0, cI, cD, rClk, Clk.row, h1, h1']
  · have h1' : ¬ 64 < (l.length : Int) := by omega
    have hwl : IntKind.i64.wrap ((l.length : Int) - 1) = (l.length : Int) - 1 := w64 (by omega) (by omega)
    have hmx : (if (l.length : Int) - 1 > 0 then (l.length : Int) - 1 else 0) = max 0 ((l.length : Int) - 1) := by omega
    have hmx2 : (if 0 < (l.length : Int) - 1 then (l.length : Int) - 1 else 0) = max 0 ((l.length : Int) - 1) := by omega
    have hmx3 : (if 1 < (l.length : Int) then (l.length : Int) - 1 else 0) = max 0 ((l.length : Int) - 1) := by omega
    have hmx4 : (if 1 < l.length then (l.length : Int) - 1 else 0) = max 0 ((l.length : Int) - 1) := by omega
    by_cases h2 : h < 0
    · simp [Try.ntmps17, Try.results17, cSl, cp0, cI, cD, rClk, Clk.row, h1, h1', h2, hwl]
    · by_cases h3 : max 0 ((l.length : Int) - 1) < h
      · simp [Try.ntmps17, Try.results17, cSl, cp0, cI, cD, rClk, Clk.row, h1, h1', h2, hwl, hmx, hmx2, hmx3, hmx4, h3]
      · simp [Try.ntmps17, Try.results17, cSl, cp0, cI, cD, rClk, Clk.row, h1, h1', h2, hwl, hmx, hmx2, hmx3, hmx4, h3]
        refine loop_for l.length (fun k (_ : Unit) => ([(1, .ptr 0 2 0 0), (23, .fsl false 3 (l.map Item.row)), (24, .v (.int .i64 l.length)), (25, .v (.int .i64 k))], [some (2, [Clk.row ⟨l, h⟩])])) (fun k _ => (ids (l.take k)).Nodup) () (by omega) (by simp [ids]) (by simp [Clk.row]) ?_ ?_
        · rintro k _ hk hall hw
          have hl2 : (l.take k).length ≤ 4294967296 := by simp; omega
          have hkl : k ≤ l.length := by omega
          have hkk : k ≤ 4294967296 := by omega
          have hmn : min k l.length ≤ 4294967296 := by omega
          have hn := nodup_take hk
          by_cases q : l[k].id ∈ ids (l.take k)
          · have q1 := (findIt_iff (l.take k) l[k].id).2 q
            have q2 : ¬ (ids l).Nodup := fun h => (hn.1 (nodup_sub h)).2 q
            simp [Try.ntmps17, Try.results17, cSl, cp0, cI, cD, rItem, Item.row, Clk.row, hk, hw, hl2, hkl, hkk, hmn, q1, q2]
          · have q1 : ¬ 0 ≤ findIt (l.take k) l[k].id := fun h => q ((findIt_iff _ _).1 h)
            have q3 := hn.2 ⟨hall, q⟩
            simp [Try.ntmps17, Try.results17, cSl, cp0, cI, cD, rItem, Item.row, Clk.row, hk, hw, hl2, hkl, hkk, hmn, q1, q3]
        · rintro _ hall
          simp at hall
          simp [Try.ntmps17, Try.results17, cSl, cp0, cI, cD, hall]
theorem clk_ok {c : Clk} : clkCheck c = 0 ↔ c.items.length ≤ 64 ∧ 0 ≤ c.hand ∧ c.hand ≤ max 0 ((c.items.length : Int) - 1) ∧ (ids c.items).Nodup := by
  unfold clkCheck
  split
  · simp; omega
  · split
    · simp; omega
    · split
      · rename_i h; simp [h]; omega
      · rename_i h; simp [h]
def clkE : Except Int Clk → AVal
  | .ok c => .tup [.agg c.hrow, .v (.int .i64 0)]
  | .error e => .v (.tuple #[.agg #[.slice none 0 0, .int .i64 0], .int .i64 e])
def clkPut (c : Clk) (id : Int) : Except Int Clk :=
  if clkCheck c = 0 then
    if id ∈ ids c.items then .error 5
    else if c.items.length = 64 then .error 6
    else .ok ⟨c.items.take c.hand.toNat ++ ⟨id, true, false⟩ :: c.items.drop c.hand.toNat, (c.hand + 1).tmod (c.items.length + 1)⟩
  else .error (clkCheck c)
theorem clkPut_pure : PureOk Try.prog 15 (argM (cAgg rClk) fun c => argM (cInt .i64) fun id => finM (some (clkE (clkPut c id)))) := by
  refine pure2 Try.func15 rfl ?_
  rintro c id r hr
  simp only [Option.some.injEq] at hr
  subst hr
  refine body_gen ((((((noOrc_ok.withP clkCheck_pure).withP find_pure).withIF itClone clone_loc).withIF itIns insert_loc).withD (fun i => if i = 8 then [(2,7),(2,4),(1,7),(4,7)] else [])).withA (fun i => if i = 8 then [0,1,3,4,5,6,7,2,8,9] else [])) fxMix (by kernel_rfl) (by simp [Try.ntmps15]) ?_
  intro C cP cI cN cD cF cA
  have cp0 := orcP clkCheck_pure (C := C) (by rw [cP]; rfl)
  have cp1 := orcP find_pure (C := C) (by rw [cP]; rfl)
  have cn0 := orcI itClone (C := C) (by rw [cN]; rfl)
  have cn1 := orcI itIns (C := C) (by rw [cN]; rfl)
  replace cI := fun g => congrFun cI g
  simp only [Orc.withP, Orc.withI, Orc.withF, Orc.withD, Orc.withA, noOrc] at cI
  replace cD : C.dyn = fun i => if i = 8 then [(2,7),(2,4),(1,7),(4,7)] else [] := cD
  replace cF := fun g => congrFun cF g
  simp only [Orc.withP, Orc.withI, Orc.withF, Orc.withD, Orc.withA, noOrc] at cF
  replace cA : C.alt = fun i => if i = 8 then [0,1,3,4,5,6,7,2,8,9] else [] := cA
  have rg10 : List.range 10 = [0, 1, 2, 3, 4, 5, 6, 7, 8, 9] := rfl
  clear cP cN
  obtain ⟨l, h⟩ := c
  unfold clkPut
  simp only
  by_cases h0 : clkCheck ⟨l, h⟩ = 0
  · obtain ⟨g1, g2, g3, g4⟩ := clk_ok.1 h0
    simp only at g1 g2 g3 g4
    have hl2 : l.length ≤ 4294967296 := by omega
    have hl3 : l.length ≤ 1048576 := by omega
    by_cases h1 : id ∈ ids l
    · have h1' := (findIt_iff l id).2 h1
      simp [Try.ntmps15, Try.results15, cSl, cp0, cp1, cn0, cn1, cI, cD, cF, cA, rg10, rClk, clkDec, rItem, Clk.row, h0, h1, h1', hl2, clkE]
    · have h1' : ¬ 0 ≤ findIt l id := fun h => h1 ((findIt_iff _ _).1 h)
      by_cases h2 : l.length = 64
      · have h2' : (l.length : Int) = 64 := by omega
        simp [Try.ntmps15, Try.results15, cSl, cp0, cp1, cn0, cn1, cI, cD, cF, cA, rg10, rClk, clkDec, rItem, Clk.row, h0, h1, h1', h2, h2', hl2, clkE]
      · have h2' : ¬ (l.length : Int) = 64 := by omega
        obtain ⟨k, rfl⟩ := Int.eq_ofNat_of_zero_le g2
        have hw1 : IntKind.i64.wrap ((k : Int) + 1) = (k : Int) + 1 := w64 (by omega) (by omega)
        have hne : ¬ (l.length : Int) + 1 = 0 := by omega
        by_cases hn : l = []
        · subst hn
          have hk : k = 0 := by simp at g3; omega
          subst hk
          have h00 : clkCheck ⟨[], 0⟩ = 0 := rfl
          simp [Try.ntmps15, Try.results15, cSl, cp0, cp1, cn0, cn1, cI, cD, cF, cA, rg10, rClk, clkDec, rItem, Clk.row, Clk.hrow, Item.row, h00, h1', clkE, cloneI, insertI, h1, hw1]
        · have hpos : 0 < l.length := List.length_pos_iff.2 hn
          have hk : k ≤ l.length := by omega
          have hh1 : l.length + 1 ≤ k + (l.length - k + 1) := by omega
          have hh2 : ∀ x : Row, List.take (l.length + 1) (List.take k (List.map Item.row l) ++ x :: List.drop k (List.map Item.row l)) = List.take k (List.map Item.row l) ++ x :: List.drop k (List.map Item.row l) := by
            intro x; apply List.take_of_length_le; simp; omega
          simp [Try.ntmps15, Try.results15, cSl, cp0, cp1, cn0, cn1, cI, cD, cF, cA, rg10, hh1, hh2, rClk, clkDec, rItem, Clk.row, Clk.hrow, Item.row, h0, h1', h2, h2', clkE, cloneI, insertI, h1, hw1, hl2, hl3, hpos, hk, hn, hne]
  · simp [Try.ntmps15, Try.results15, cSl, cp0, cp1, cn0, cn1, cI, cD, cF, cA, rg10, rClk, clkDec, rItem, Clk.row, h0, clkE]
end Go.Proofs.Ytigpgieapamffaa
