/- Package reclaim: faults, Best, Lru, Fifo. -/
import Derived.Test.YtigpgieapamffaaRbB
namespace Go.Proofs.Ytigpgieapamffaa
open Go.AI
set_option maxHeartbeats 2000000
set_option maxRecDepth 100000
set_option linter.unusedSimpArgs false
set_option linter.unusedVariables false
attribute [local simp] wpA wpX RunA RunD runF foot footP footB idsA bare apart runL step1 gsel_f gsel_t gsel_s res_same res_and1 res_and2 res_and3 res_and4 res_and5 res_and6 res_false res_true res_v res_ptr res_fptr res_osl res_xsl soft aAppendZ aCap ovlI ovlJ res_fsl res_esl res_agg res_tup res_fn res_junk res_anyb aPick hk imp_left iteV dstOk guardOk astep astepE AI.ev AI.look AI.put envOf aBox cellsOf allOne allOneA oneA Value.oneCell' Value.cells newObj' aFieldAddr aLoad obj readAt thenA blockA condA retA resA tupA view hot hotC hotR depthV cAgg cInt cBool mkAgg allV aAlloc aBuild fillA writeAt aStore isAggA aField idx aIndexAddr aIndex bnd aSlice aExtract aLen aBuiltin aCall isStatic eqAgg eqTy eqC ev_add ev_sub ev_mul ev_quo ev_rem ev_and ev_or ev_xor ev_andNot ev_shl ev_shr ev_eql ev_neq ev_lss ev_leq ev_gtr ev_geq ev_agg w64 wu32 wu8 ev_not ev_neg Cod.plain RCod.plain argM finM cold coldC coldR goInt intDec boolDec aggDec Weaker heapW lowA lowC Again slDec undef aBuildSlice setRows aAppend rowsOf aMakeSlice aClear aCopy softer_self softer_nil valsOf ev_min2 ev_max2 hotR_set hotR_append take_map_set irow_cold irow_mapM irow_mapMc irow_view irow_viewc irow_hotR irow_ren irow_renc irow_low WeakT heapT thOf ren renC AgainT NextF NextT fnDec cFn rNil selfLt natLt0 natLt1 getLastMap frame0 frame1 own0 own1 argG finG tau tauI tauO tauC bareA bareC bareH irow_tau irow_tauc irow_bare irow_flat irow_bareR ownA_nil ownT_nil ownA_c ownT_c ownA_s ownT_s takeMapLen footC plainA noId noIdC cloneF frame0F frame1F insertF replaceI replaceF cellDec rCell fpDec cFp rTwo deleteF allV_oA oneA_oA res_oA RunR RunE runFT footAt hotR_cat tmodN fxSz2 fxBy2 fxAg2 fxZe2 fxSl2 fxAr2 fxPl2 fxSz3 fxBy3 fxAg3 fxZe3 fxSl3 fxAr3 fxPl3 fxSz4 fxBy4 fxAg4 fxZe4 fxSl4 fxAr4 fxPl4 fxSz5 fxBy5 fxAg5 fxZe5 fxSl5 fxAr5 fxPl5 fxSz9 fxBy9 fxAg9 fxZe9 fxSl9 fxAr9 fxPl9 fxSz12 fxBy12 fxAg12 fxZe12 fxSl12 fxAr12 fxPl12 fxSz13 fxBy13 fxAg13 fxZe13 fxSl13 fxAr13 fxFi13x0 fxFi13x1 fxPl13 fxSz21 fxBy21 fxAg21 fxZe21 fxSl21 fxAr21 fxPl21 fxSz22 fxBy22 fxAg22 fxZe22 fxSl22 fxAr22 fxPl22 fxSz23 fxBy23 fxAg23 fxZe23 fxSl23 fxAr23 fxFi23x0 fxFi23x1 fxPl23 fxSz24 fxBy24 fxAg24 fxZe24 fxSl24 fxAr24 fxFi24x0 fxFi24x1 fxPl24 fxSz25 fxBy25 fxAg25 fxZe25 fxSl25 fxAr25 fxPl25 fxSz29 fxBy29 fxAg29 fxZe29 fxSl29 fxAr29 fxFi29x0 fxFi29x1 fxFi29x2 fxPl29 fxSz30 fxBy30 fxAg30 fxZe30 fxSl30 fxAr30 fxFi30x0 fxFi30x1 fxFi30x2 fxPl30 fxSz38 fxBy38 fxAg38 fxZe38 fxSl38 fxAr38 fxPl38 fxSz46 fxBy46 fxAg46 fxZe46 fxSl46 fxAr46 fxPl46 fxSz47 fxBy47 fxAg47 fxZe47 fxSl47 fxAr47 fxFi47x0 fxFi47x1 fxFi47x2 fxPl47 fxSz48 fxBy48 fxAg48 fxZe48 fxSl48 fxAr48 fxFi48x0 fxFi48x1 fxFi48x2 fxPl48 fxSz66 fxBy66 fxAg66 fxZe66 fxSl66 fxAr66 fxPl66 fxSz74 fxBy74 fxAg74 fxZe74 fxSl74 fxAr74 fxPl74 fxSz79 fxBy79 fxAg79 fxZe79 fxSl79 fxAr79 fxPl79 fxSz91 fxBy91 fxAg91 fxZe91 fxSl91 fxAr91 fxPl91 fxSz92 fxBy92 fxAg92 fxZe92 fxSl92 fxAr92 fxPl92 fxSz99 fxBy99 fxAg99 fxZe99 fxSl99 fxAr99 fxPl99 fxSz105 fxBy105 fxAg105 fxZe105 fxSl105 fxAr105 fxPl105 fxSz107 fxBy107 fxAg107 fxZe107 fxSl107 fxAr107 fxPl107 fxSz113 fxBy113 fxAg113 fxZe113 fxSl113 fxAr113 fxPl113 fxSz117 fxBy117 fxAg117 fxZe117 fxSl117 fxAr117 fxPl117 fxSz126 fxBy126 fxAg126 fxZe126 fxSl126 fxAr126 fxPl126 fxSz136 fxBy136 fxAg136 fxZe136 fxSl136 fxAr136 fxPl136 fxSz137 fxBy137 fxAg137 fxZe137 fxSl137 fxAr137 fxFi137x0 fxPl137 fxSz143 fxBy143 fxAg143 fxZe143 fxSl143 fxAr143 fxPl143 fxSz148 fxBy148 fxAg148 fxZe148 fxSl148 fxAr148 fxPl148 fxEq30 fxEq48 fxEq92 fxCv2x2 fxCv2x3 fxCv2x5 fxCv2x12 fxCv2x21 fxCv2x25 fxCv2x79 fxCv2x99 fxCv2x105 fxCv2x107 fxCv2x113 fxCv3x2 fxCv3x3 fxCv3x5 fxCv3x12 fxCv3x21 fxCv3x25 fxCv3x79 fxCv3x99 fxCv3x105 fxCv3x107 fxCv3x113 fxCv5x2 fxCv5x3 fxCv5x5 fxCv5x12 fxCv5x21 fxCv5x25 fxCv5x79 fxCv5x99 fxCv5x105 fxCv5x107 fxCv5x113 fxCv12x2 fxCv12x3 fxCv12x5 fxCv12x12 fxCv12x21 fxCv12x25 fxCv12x79 fxCv12x99 fxCv12x105 fxCv12x107 fxCv12x113 fxCv21x2 fxCv21x3 fxCv21x5 fxCv21x12 fxCv21x21 fxCv21x25 fxCv21x79 fxCv21x99 fxCv21x105 fxCv21x107 fxCv21x113 fxCv25x2 fxCv25x3 fxCv25x5 fxCv25x12 fxCv25x21 fxCv25x25 fxCv25x79 fxCv25x99 fxCv25x105 fxCv25x107 fxCv25x113 fxCv79x2 fxCv79x3 fxCv79x5 fxCv79x12 fxCv79x21 fxCv79x25 fxCv79x79 fxCv79x99 fxCv79x105 fxCv79x107 fxCv79x113 fxCv99x2 fxCv99x3 fxCv99x5 fxCv99x12 fxCv99x21 fxCv99x25 fxCv99x79 fxCv99x99 fxCv99x105 fxCv99x107 fxCv99x113 fxCv105x2 fxCv105x3 fxCv105x5 fxCv105x12 fxCv105x21 fxCv105x25 fxCv105x79 fxCv105x99 fxCv105x105 fxCv105x107 fxCv105x113 fxCv107x2 fxCv107x3 fxCv107x5 fxCv107x12 fxCv107x21 fxCv107x25 fxCv107x79 fxCv107x99 fxCv107x105 fxCv107x107 fxCv107x113 fxCv113x2 fxCv113x3 fxCv113x5 fxCv113x12 fxCv113x21 fxCv113x25 fxCv113x79 fxCv113x99 fxCv113x105 fxCv113x107 fxCv113x113 fxEb4 fxNb4 fxLt9 fxLn22 fxNe22 fxNn22 fxOe22 fxOn22 fxXe22 fxXn22 fxLn38 fxNe38 fxNn38 fxOe38 fxOn38 fxXe38 fxXn38 fxLn46 fxNe46 fxNn46 fxOe46 fxOn46 fxXe46 fxXn46 fxLn74 fxNe74 fxNn74 fxOe74 fxOn74 fxXe74 fxXn74 fxFn3 fxFm3 fxFb3 fxFi3 fxFj3 fxFn4 fxFm4 fxFb4 fxFi4 fxFj4 fxFn5 fxFm5 fxFb5 fxFi5 fxFj5 fxFn6 fxFm6 fxFb6 fxFi6 fxFj6 fxFn7 fxFm7 fxFb7 fxFi7 fxFj7 fxFn8 fxFm8 fxFb8 fxFi8 fxFj8 fxFn9 fxFm9 fxFb9 fxFi9 fxFj9 fxFn10 fxFm10 fxFb10 fxFi10 fxFj10 fxFn11 fxFm11 fxFb11 fxFi11 fxFj11 fxFn12 fxFm12 fxFb12 fxFi12 fxFj12 fxFn13 fxFm13 fxFb13 fxFi13 fxFj13 fxFn14 fxFm14 fxFb14 fxFi14 fxFj14 fxFn15 fxFm15 fxFb15 fxFi15 fxFj15 fxFn16 fxFm16 fxFb16 fxFi16 fxFj16 fxFn17 fxFm17 fxFb17 fxFi17 fxFj17 fxFn18 fxFm18 fxFb18 fxFi18 fxFj18 fxFn19 fxFm19 fxFb19 fxFi19 fxFj19 fxFn20 fxFm20 fxFb20 fxFi20 fxFj20 fxFn21 fxFm21 fxFb21 fxFi21 fxFj21 fxFn22 fxFm22 fxFb22 fxFi22 fxFj22 fxFn23 fxFm23 fxFb23 fxFi23 fxFj23 fxFn24 fxFm24 fxFb24 fxFi24 fxFj24 fxFn25 fxFm25 fxFb25 fxFi25 fxFj25 fxFn26 fxFm26 fxFb26 fxFi26 fxFj26 fxFn27 fxFm27 fxFb27 fxFi27 fxFj27 fxFn28 fxFm28 fxFb28 fxFi28 fxFj28 fxFn29 fxFm29 fxFb29 fxFi29 fxFj29 fxFn30 fxFm30 fxFb30 fxFi30 fxFj30 fxFn31 fxFm31 fxFb31 fxFi31 fxFj31 fxFn32 fxFm32 fxFb32 fxFi32 fxFj32 fxFn33 fxFm33 fxFb33 fxFi33 fxFj33 fxFn34 fxFm34 fxFb34 fxFi34 fxFj34 fxFn35 fxFm35 fxFb35 fxFi35 fxFj35 fxFn36 fxFm36 fxFb36 fxFi36 fxFj36 fxFn37 fxFm37 fxFb37 fxFi37 fxFj37 fxFn38 fxFm38 fxFb38 fxFi38 fxFj38 fxFn39 fxFm39 fxFb39 fxFi39 fxFj39 fxFn40 fxFm40 fxFb40 fxFi40 fxFj40 fxFn41 fxFm41 fxFb41 fxFi41 fxFj41 fxFn42 fxFm42 fxFb42 fxFi42 fxFj42 fxFn43 fxFm43 fxFb43 fxFi43 fxFj43 fxFn44 fxFm44 fxFb44 fxFi44 fxFj44 fxFn45 fxFm45 fxFb45 fxFi45 fxFj45 fxFn46 fxFm46 fxFb46 fxFi46 fxFj46 fxFn47 fxFm47 fxFb47 fxFi47 fxFj47 fxFn48 fxFm48 fxFb48 fxFi48 fxFj48 fxFn49 fxFm49 fxFb49 fxFi49 fxFj49 fxFn50 fxFm50 fxFb50 fxFi50 fxFj50 fxFn51 fxFm51 fxFb51 fxFi51 fxFj51 fxFn52 fxFm52 fxFb52 fxFi52 fxFj52 fxFn53 fxFm53 fxFb53 fxFi53 fxFj53 fxFn54 fxFm54 fxFb54 fxFi54 fxFj54 fxFn55 fxFm55 fxFb55 fxFi55 fxFj55 fxFn56 fxFm56 fxFb56 fxFi56 fxFj56 fxFn57 fxFm57 fxFb57 fxFi57 fxFj57 fxFn58 fxFm58 fxFb58 fxFi58 fxFj58 fxFn59 fxFm59 fxFb59 fxFi59 fxFj59 fxFn60 fxFm60 fxFb60 fxFi60 fxFj60 fxFn61 fxFm61 fxFb61 fxFi61 fxFj61 fxFn62 fxFm62 fxFb62 fxFi62 fxFj62 fxFn63 fxFm63 fxFb63 fxFi63 fxFj63 fxFn64 fxFm64 fxFb64 fxFi64 fxFj64 fxFn65 fxFm65 fxFb65 fxFi65 fxFj65 fxFn66 fxFm66 fxFb66 fxFi66 fxFj66 fxFn67 fxFm67 fxFb67 fxFi67 fxFj67 fxFn68 fxFm68 fxFb68 fxFi68 fxFj68 fxFn69 fxFm69 fxFb69 fxFi69 fxFj69 fxFn70 fxFm70 fxFn71 fxFm71 fxFb71 fxFi71 fxFj71 fxFn72 fxFm72 fxFb72 fxFi72 fxFj72 fxFn73 fxFm73 fxFb73 fxFi73 fxFj73 fxFn74 fxFm74 fxFb74 fxFi74 fxFj74 fxFn75 fxFm75 fxFb75 fxFi75 fxFj75 fxFn76 fxFm76 fxFb76 fxFi76 fxFj76 fxFn77 fxFm77 fxFb77 fxFi77 fxFj77 fxFn78 fxFm78 fxFb78 fxFi78 fxFj78 fxFn79 fxFm79 fxFb79 fxFi79 fxFj79 fxFn80 fxFm80 fxFb80 fxFi80 fxFj80 fxFn81 fxFm81 fxFb81 fxFi81 fxFj81 fxFn82 fxFm82 fxFb82 fxFi82 fxFj82 fxFn83 fxFm83 fxFb83 fxFi83 fxFj83 fxFn84 fxFm84 fxFb84 fxFi84 fxFj84 fxFn85 fxFm85 fxFb85 fxFi85 fxFj85 fxFn86 fxFm86 fxFb86 fxFi86 fxFj86 fxFn87 fxFm87 fxFb87 fxFi87 fxFj87 fxFn88 fxFm88 fxFb88 fxFi88 fxFj88 fxFn89 fxFm89 fxFn90 fxFm90 fxFb90 fxFi90 fxFj90 fxFn91 fxFm91 fxFb91 fxFi91 fxFj91 fxFn92 fxFm92 fxFb92 fxFi92 fxFj92 fxFn93 fxFm93 fxFb93 fxFi93 fxFj93 fxFn94 fxFm94 fxFb94 fxFi94 fxFj94 fxFn95 fxFm95 fxFb95 fxFi95 fxFj95 fxFn96 fxFm96 fxFb96 fxFi96 fxFj96 fxFn97 fxFm97 fxFb97 fxFi97 fxFj97 fxFn98 fxFm98 fxFb98 fxFi98 fxFj98 fxFn99 fxFm99 fxFb99 fxFi99 fxFj99 fxFn100 fxFm100 fxFb100 fxFi100 fxFj100 fxFn101 fxFm101 fxFb101 fxFi101 fxFj101 fxFn102 fxFm102 fxFb102 fxFi102 fxFj102 fxFn103 fxFm103 fxFb103 fxFi103 fxFj103 fxFn104 fxFm104 fxFb104 fxFi104 fxFj104 fxFn105 fxFm105 fxFb105 fxFi105 fxFj105 fxFn106 fxFm106 fxFb106 fxFi106 fxFj106 fxFn107 fxFm107 fxFb107 fxFi107 fxFj107 fxFn108 fxFm108 fxFb108 fxFi108 fxFj108 fxFn109 fxFm109 fxFb109 fxFi109 fxFj109 fxFn110 fxFm110 fxFb110 fxFi110 fxFj110 fxFn111 fxFm111 fxFb111 fxFi111 fxFj111 fxFn112 fxFm112 fxFb112 fxFi112 fxFj112 fxFn113 fxFm113 fxFb113 fxFi113 fxFj113 fxFn114 fxFm114 fxFb114 fxFi114 fxFj114
attribute [local simp] slDe rIsz
def whoL (l C : List Int) (t : Nat) : Nat := mostK (fun p => farI l t p (-1)) C C.length
def whoB (l C : List Int) (t : Nat) : Nat := mostK (fun p => farI l t p 1) C C.length
def whoF (_ : List Int) (_ : Nat) : Nat := 0
theorem er_map {α β : Type} {f : α → β} : ∀ {l : List α} {q : Nat}, (l.map f).eraseIdx q = (l.eraseIdx q).map f
  | [], _ => rfl
  | _ :: _, 0 => rfl
  | a :: l, q + 1 => by simp [er_map (l := l) (q := q)]
theorem intDel : InlOk Try.prog 72 (deleteI 1) := by
  refine delete_of (z := [.v (.int .i64 0)]) Try.func72 rfl (by simp [Try.ntmps72]) ?_
  intro H id i rows h1 h2 h3 h4
  refine wpA_sound noOrc_ok fxMix _ _ _ _ (by kernel_rfl) ?_
  have h1' := obj_get h1
  have g1 := (List.getElem?_eq_some_iff.1 h1').2
  have c1 : (i : Int) + 1 ≤ rows.length := by omega
  have c2 : 0 ≤ (i : Int) + 1 := by omega
  have c3 : (i : Int) ≤ i + 1 := by omega
  have c4 : i ≤ rows.length := by omega
  have c5 : i + 1 ≤ rows.length := by omega
  have c6 : i + 1 + (rows.length - (i + 1)) ≤ rows.length := by omega
  have c7 : i + (rows.length - (i + 1)) ≤ rows.length := by omega
  have c8 : i + (rows.length - (i + 1)) = rows.length - 1 := by omega
  have c9 : rows.length - 1 ≤ rows.length := by omega
  have d1 : ¬ ((i : Int) = i + 1) := by omega
  have d2 : List.take (rows.length - (i + 1)) (List.drop (i + 1) rows) = List.drop (i + 1) rows := List.take_of_length_le (by simp)
  have d3 : rows.length - (rows.length - 1) = 1 := by omega
  have d4 : (rows.length - 1) + 1 = rows.length := by omega
  have d5 : ¬ rows.length = i := by omega
  have d6 : ¬ rows.length = 0 := by omega
  have d7 : rows.length ≤ 4294967296 := by omega
  have d8 : i + (rows.length - (i + 1)) ≤ 4294967296 := by omega
  have f1 : rows.length ≤ 4294967297 := by omega
  have f2 : rows.length ≤ i + (rows.length - (i + 1) + 1) := by omega
  have d9 : ∀ X : List Row, List.take (rows.length - 1) (List.take i rows ++ (List.drop (i + 1) rows ++ X)) = List.take i rows ++ List.drop (i + 1) rows := by
    intro X
    rw [← List.append_assoc, List.take_append_of_le_length (by simp; omega), List.take_of_length_le (by simp; omega)]
  have e1 : List.drop rows.length (List.take i rows ++ (List.drop (i + 1) rows ++ List.drop (rows.length - 1) rows)) = [] := List.drop_eq_nil_of_le (by simp; omega)
  have e2 : rows.length - 1 ≤ i + (rows.length - (i + 1) + 1) := by omega
  have e3 : min i rows.length = i := by omega
  have e4 : ((rows.length - 1 : Nat) : Int) ≤ rows.length := by omega
  simp [Try.ntmps72, Try.results72, noOrc, h1', h2, h3, g1, c1, c2, c3, c4, c5, c6, c7, c8, c9, d1, d2, d3, d4, d5, d6, d7, d8, d9, e1, e2, e3, e4, f1, f2]
theorem nextC_len {room : Nat} {who : List Int → Nat → Nat} {C : List Int} {t : Nat} {p : Int} : (nextC room who C t p).length ≤ C.length + 1 := by
  unfold nextC
  split
  · have := List.length_eraseIdx_le C (who C t); simp; omega
  · simp
theorem faultsL_pure : PureOk Try.prog 44 (argM (cSl (rI .i64)) fun l => argM (cInt .i64) fun room => argM (cFn 45 rCapL) fun m => finM (if l = m ∧ l.length ≤ 60 ∧ 1 ≤ room ∧ room ≤ 8 then some (.v (.int .i64 (pages room.toNat (whoL l) l 0 []))) else none)) := by
  refine pure3 Try.func44 rfl ?_
  rintro l room m r hr
  by_cases hc : l = m ∧ l.length ≤ 60 ∧ 1 ≤ room ∧ room ≤ 8
  case neg => rw [if_neg hc] at hr; cases hr
  rw [if_pos hc] at hr
  simp only [Option.some.injEq] at hr
  subst hr
  refine body_gen (((noOrc_ok.withP lruW_pure).withP contains_pure).withIF intDel delete_loc) fxMix (by kernel_rfl) (by simp [Try.ntmps44]) ?_
  intro C cP cI cN cD cF cA
  have cp0 := orcP lruW_pure (C := C) (by rw [cP]; rfl)
  have cp1 := orcP contains_pure (C := C) (by rw [cP]; rfl)
  have cn0 := orcI intDel (C := C) (by rw [cN]; rfl)
  replace cI := fun g => congrFun cI g
  simp only [Orc.withP, Orc.withI, Orc.withF, Orc.withD, Orc.withA, noOrc] at cI
  replace cD : C.dyn = fun _ => [] := cD
  clear cP cN cF cA
  obtain ⟨rfl, hc⟩ := hc
  obtain ⟨hl, h1, h8⟩ := hc
  obtain ⟨room, rfl⟩ := Int.eq_ofNat_of_zero_le (show 0 ≤ room by omega)
  have hl2 : l.length ≤ 4294967296 := by omega
  rw [Int.toNat_natCast]
  simp [Try.ntmps44, Try.results44, cSl, cp0, cp1, cn0, cI, cD, rCapL, rI, rS]
  generalize hT : pages room (whoL l) l 0 [] = T
  refine loop_forT l.length (fun k (s : List Int × Nat) => ([(1, .v (.int .i64 room)), (2, .fn 45 [.fptr [.fsl false 1 (l.map (irow .i64))] 0]), (7, ownA 0 1 (s.1.map (irow .i64))), (8, .v (.int .i64 s.2)), (12, .fsl false 1 (l.map (irow .i64))), (13, .v (.int .i64 l.length)), (14, .v (.int .i64 k))], ownT 1 (s.1.map (irow .i64)))) (fun k s => (s.1.length ≤ k ∧ s.2 ≤ k) ∧ s.2 + pages room (whoL l) (l.drop k) k s.1 = T) ([], 0) [] (by omega) (by simp [hT]) (by simp [ownA_nil, ownT_nil]) ?_ ?_
  · rintro k ⟨D, n⟩ hk ⟨⟨hD, hn⟩, hp⟩ hw
    simp only at hD hn hp
    have wn : IntKind.i64.wrap ((n : Int) + 1) = (n : Int) + 1 := w64 (by omega) (by omega)
    have hkl : (k : Int) < l.length := by omega
    rw [List.drop_eq_getElem_cons hk] at hp
    simp only [pages] at hp
    by_cases h0 : D = []
    · subst h0
      have hr0 : ¬ (0 : Int) = room := by omega
      have hnx : nextC room (whoL l) [] k l[k] = [l[k]] := by unfold nextC; rw [if_neg (by simp; omega)]; rfl
      rw [if_neg (by simp), hnx] at hp
      simp [Try.ntmps44, Try.results44, cSl, cp0, cp1, cn0, cI, cD, rI, irow, hk, hw, ownA_nil, ownT_nil, wn, hr0]
      exact ⟨[l[k]], n + 1, by simp; omega, [1], by simp [ownT], by simp [ownA, ownT, irow]⟩
    · have hpos : 0 < D.length := List.length_pos_iff.2 h0
      have o1 : ownA 0 1 (D.map (irow .i64)) = .osl 0 1 0 D.length D.length := by simp [ownA, h0]
      have t1 : ownT 1 (D.map (irow .i64)) = [some (1, D.map (irow .i64))] := by simp [ownT, h0]
      have hD2 : D.length ≤ 4294967296 := by omega
      by_cases hm : l[k] ∈ D
      · rw [if_pos hm] at hp
        simp [Try.ntmps44, Try.results44, cSl, cp0, cp1, cn0, cI, cD, rI, irow, hk, hw, o1, t1, hD2, hm, hpos]
        exact ⟨D, n, by omega, [0], by simp [ownT, h0], by simp [ownA, ownT, h0]⟩
      · rw [if_neg hm] at hp
        have hlt := nextC_len (room := room) (who := (whoL l)) (C := D) (t := k) (p := l[k])
        have n1 : ¬ D.length + 1 ≤ D.length := by omega
        have n2 : D.length + 1 ≤ 4294967296 := by omega
        by_cases hf : D.length = room
        · subst hf
          have hq : (whoL l) D k < D.length := mostK_lt (Nat.le_refl _) h0
          have hnx : nextC D.length (whoL l) D k l[k] = D.eraseIdx ((whoL l) D k) ++ [l[k]] := by unfold nextC; rw [if_pos rfl]
          rw [hnx] at hp hlt
          have hcl : ((mostK (fun p => farI l k p (-1)) D D.length : Nat) : Int) = ((whoL l D k : Nat) : Int) := rfl
          generalize (whoL l) D k = q at hq hp hlt hcl
          skip
          have wq : IntKind.i64.wrap (((q : Nat) : Int) + 1) = ((q : Nat) : Int) + 1 := w64 (by omega) (by omega)
          have d1 : D.length ≤ 1048576 := by omega
          have d2 : D.length - 1 + 1 ≤ 4294967296 := by omega
          have d3 : (D.eraseIdx q).length = D.length - 1 := by rw [List.length_eraseIdx, if_pos hq]
          have d4 : (D.map (irow .i64)).eraseIdx q = (D.eraseIdx q).map (irow .i64) := er_map
          have d5 : D.length - 1 + 1 = D.length := by omega
          have d6 : ¬ D.length ≤ D.length - 1 := by omega
          simp [Try.ntmps44, Try.results44, cSl, cp0, cp1, cn0, cI, cD, -List.eraseIdx_zero, rI, irow, rCapL, rS, cellDec, irowDec, hk, hkl, hw, o1, t1, hD2, hm, hpos, wn, hcl, deleteI, hq, wq, d1, d2, d3, d4, d5, d6, hl2]
          exact ⟨D.eraseIdx (q) ++ [l[k]], n + 1, ⟨⟨by omega, by omega⟩, by omega⟩, [2], by simp [ownT], by simp [-List.eraseIdx_zero, ownA, ownT, irow, d3, d5]⟩
        · have hf' : ¬ (D.length : Int) = room := by omega
          have hnx : nextC room (whoL l) D k l[k] = D ++ [l[k]] := by unfold nextC; rw [if_neg hf]
          rw [hnx] at hp
          simp [Try.ntmps44, Try.results44, cSl, cp0, cp1, cn0, cI, cD, rI, irow, hk, hw, o1, t1, hD2, hm, hpos, wn, hf', n1, n2]
          exact ⟨D ++ [l[k]], n + 1, by simp; omega, [2], by simp [ownT], by simp [ownA, ownT, irow]⟩
  · rintro ⟨D, n⟩ ⟨_, hp⟩
    simp only [List.drop_length, pages, Nat.add_zero] at hp
    simp [Try.ntmps44, Try.results44, cSl, cp0, cp1, cn0, cI, cD, hp]
theorem faultsB_pure : PureOk Try.prog 44 (argM (cSl (rI .i64)) fun l => argM (cInt .i64) fun room => argM (cFn 49 rCapL) fun m => finM (if l = m ∧ l.length ≤ 60 ∧ 1 ≤ room ∧ room ≤ 8 then some (.v (.int .i64 (pages room.toNat (whoB l) l 0 []))) else none)) := by
  refine pure3 Try.func44 rfl ?_
  rintro l room m r hr
  by_cases hc : l = m ∧ l.length ≤ 60 ∧ 1 ≤ room ∧ room ≤ 8
  case neg => rw [if_neg hc] at hr; cases hr
  rw [if_pos hc] at hr
  simp only [Option.some.injEq] at hr
  subst hr
  refine body_gen (((noOrc_ok.withP bestW_pure).withP contains_pure).withIF intDel delete_loc) fxMix (by kernel_rfl) (by simp [Try.ntmps44]) ?_
  intro C cP cI cN cD cF cA
  have cp0 := orcP bestW_pure (C := C) (by rw [cP]; rfl)
  have cp1 := orcP contains_pure (C := C) (by rw [cP]; rfl)
  have cn0 := orcI intDel (C := C) (by rw [cN]; rfl)
  replace cI := fun g => congrFun cI g
  simp only [Orc.withP, Orc.withI, Orc.withF, Orc.withD, Orc.withA, noOrc] at cI
  replace cD : C.dyn = fun _ => [] := cD
  clear cP cN cF cA
  obtain ⟨rfl, hc⟩ := hc
  obtain ⟨hl, h1, h8⟩ := hc
  obtain ⟨room, rfl⟩ := Int.eq_ofNat_of_zero_le (show 0 ≤ room by omega)
  have hl2 : l.length ≤ 4294967296 := by omega
  rw [Int.toNat_natCast]
  simp [Try.ntmps44, Try.results44, cSl, cp0, cp1, cn0, cI, cD, rCapL, rI, rS]
  generalize hT : pages room (whoB l) l 0 [] = T
  refine loop_forT l.length (fun k (s : List Int × Nat) => ([(1, .v (.int .i64 room)), (2, .fn 49 [.fptr [.fsl false 1 (l.map (irow .i64))] 0]), (7, ownA 0 1 (s.1.map (irow .i64))), (8, .v (.int .i64 s.2)), (12, .fsl false 1 (l.map (irow .i64))), (13, .v (.int .i64 l.length)), (14, .v (.int .i64 k))], ownT 1 (s.1.map (irow .i64)))) (fun k s => (s.1.length ≤ k ∧ s.2 ≤ k) ∧ s.2 + pages room (whoB l) (l.drop k) k s.1 = T) ([], 0) [] (by omega) (by simp [hT]) (by simp [ownA_nil, ownT_nil]) ?_ ?_
  · rintro k ⟨D, n⟩ hk ⟨⟨hD, hn⟩, hp⟩ hw
    simp only at hD hn hp
    have wn : IntKind.i64.wrap ((n : Int) + 1) = (n : Int) + 1 := w64 (by omega) (by omega)
    have hkl : (k : Int) < l.length := by omega
    rw [List.drop_eq_getElem_cons hk] at hp
    simp only [pages] at hp
    by_cases h0 : D = []
    · subst h0
      have hr0 : ¬ (0 : Int) = room := by omega
      have hnx : nextC room (whoB l) [] k l[k] = [l[k]] := by unfold nextC; rw [if_neg (by simp; omega)]; rfl
      rw [if_neg (by simp), hnx] at hp
      simp [Try.ntmps44, Try.results44, cSl, cp0, cp1, cn0, cI, cD, rI, irow, hk, hw, ownA_nil, ownT_nil, wn, hr0]
      exact ⟨[l[k]], n + 1, by simp; omega, [1], by simp [ownT], by simp [ownA, ownT, irow]⟩
    · have hpos : 0 < D.length := List.length_pos_iff.2 h0
      have o1 : ownA 0 1 (D.map (irow .i64)) = .osl 0 1 0 D.length D.length := by simp [ownA, h0]
      have t1 : ownT 1 (D.map (irow .i64)) = [some (1, D.map (irow .i64))] := by simp [ownT, h0]
      have hD2 : D.length ≤ 4294967296 := by omega
      by_cases hm : l[k] ∈ D
      · rw [if_pos hm] at hp
        simp [Try.ntmps44, Try.results44, cSl, cp0, cp1, cn0, cI, cD, rI, irow, hk, hw, o1, t1, hD2, hm, hpos]
        exact ⟨D, n, by omega, [0], by simp [ownT, h0], by simp [ownA, ownT, h0]⟩
      · rw [if_neg hm] at hp
        have hlt := nextC_len (room := room) (who := (whoB l)) (C := D) (t := k) (p := l[k])
        have n1 : ¬ D.length + 1 ≤ D.length := by omega
        have n2 : D.length + 1 ≤ 4294967296 := by omega
        by_cases hf : D.length = room
        · subst hf
          have hq : (whoB l) D k < D.length := mostK_lt (Nat.le_refl _) h0
          have hnx : nextC D.length (whoB l) D k l[k] = D.eraseIdx ((whoB l) D k) ++ [l[k]] := by unfold nextC; rw [if_pos rfl]
          rw [hnx] at hp hlt
          have hcl : ((mostK (fun p => farI l k p 1) D D.length : Nat) : Int) = ((whoB l D k : Nat) : Int) := rfl
          generalize (whoB l) D k = q at hq hp hlt hcl
          skip
          have wq : IntKind.i64.wrap (((q : Nat) : Int) + 1) = ((q : Nat) : Int) + 1 := w64 (by omega) (by omega)
          have d1 : D.length ≤ 1048576 := by omega
          have d2 : D.length - 1 + 1 ≤ 4294967296 := by omega
          have d3 : (D.eraseIdx q).length = D.length - 1 := by rw [List.length_eraseIdx, if_pos hq]
          have d4 : (D.map (irow .i64)).eraseIdx q = (D.eraseIdx q).map (irow .i64) := er_map
          have d5 : D.length - 1 + 1 = D.length := by omega
          have d6 : ¬ D.length ≤ D.length - 1 := by omega
          simp [Try.ntmps44, Try.results44, cSl, cp0, cp1, cn0, cI, cD, -List.eraseIdx_zero, rI, irow, rCapL, rS, cellDec, irowDec, hk, hkl, hw, o1, t1, hD2, hm, hpos, wn, hcl, deleteI, hq, wq, d1, d2, d3, d4, d5, d6, hl2]
          exact ⟨D.eraseIdx (q) ++ [l[k]], n + 1, ⟨⟨by omega, by omega⟩, by omega⟩, [2], by simp [ownT], by simp [-List.eraseIdx_zero, ownA, ownT, irow, d3, d5]⟩
        · have hf' : ¬ (D.length : Int) = room := by omega
          have hnx : nextC room (whoB l) D k l[k] = D ++ [l[k]] := by unfold nextC; rw [if_neg hf]
          rw [hnx] at hp
          simp [Try.ntmps44, Try.results44, cSl, cp0, cp1, cn0, cI, cD, rI, irow, hk, hw, o1, t1, hD2, hm, hpos, wn, hf', n1, n2]
          exact ⟨D ++ [l[k]], n + 1, by simp; omega, [2], by simp [ownT], by simp [ownA, ownT, irow]⟩
  · rintro ⟨D, n⟩ ⟨_, hp⟩
    simp only [List.drop_length, pages, Nat.add_zero] at hp
    simp [Try.ntmps44, Try.results44, cSl, cp0, cp1, cn0, cI, cD, hp]
theorem faultsF_pure : PureOk Try.prog 44 (argM (cSl (rI .i64)) fun l => argM (cInt .i64) fun room => argM (cFn 53 rNil) fun _w => finM (if l.length ≤ 60 ∧ 1 ≤ room ∧ room ≤ 8 then some (.v (.int .i64 (pages room.toNat whoF l 0 []))) else none)) := by
  refine pure3 Try.func44 rfl ?_
  rintro l room _w r hr
  by_cases hc : l.length ≤ 60 ∧ 1 ≤ room ∧ room ≤ 8
  case neg => rw [if_neg hc] at hr; cases hr
  rw [if_pos hc] at hr
  simp only [Option.some.injEq] at hr
  subst hr
  refine body_gen (((noOrc_ok.withP fifoW_pure).withP contains_pure).withIF intDel delete_loc) fxMix (by kernel_rfl) (by simp [Try.ntmps44]) ?_
  intro C cP cI cN cD cF cA
  have cp0 := orcP fifoW_pure (C := C) (by rw [cP]; rfl)
  have cp1 := orcP contains_pure (C := C) (by rw [cP]; rfl)
  have cn0 := orcI intDel (C := C) (by rw [cN]; rfl)
  replace cI := fun g => congrFun cI g
  simp only [Orc.withP, Orc.withI, Orc.withF, Orc.withD, Orc.withA, noOrc] at cI
  replace cD : C.dyn = fun _ => [] := cD
  clear cP cN cF cA
  obtain ⟨hl, h1, h8⟩ := hc
  obtain ⟨room, rfl⟩ := Int.eq_ofNat_of_zero_le (show 0 ≤ room by omega)
  have hl2 : l.length ≤ 4294967296 := by omega
  rw [Int.toNat_natCast]
  simp [Try.ntmps44, Try.results44, cSl, cp0, cp1, cn0, cI, cD, rCapL, rI, rS]
  generalize hT : pages room whoF l 0 [] = T
  refine loop_forT l.length (fun k (s : List Int × Nat) => ([(1, .v (.int .i64 room)), (2, .fn 53 []), (7, ownA 0 1 (s.1.map (irow .i64))), (8, .v (.int .i64 s.2)), (12, .fsl false 1 (l.map (irow .i64))), (13, .v (.int .i64 l.length)), (14, .v (.int .i64 k))], ownT 1 (s.1.map (irow .i64)))) (fun k s => (s.1.length ≤ k ∧ s.2 ≤ k) ∧ s.2 + pages room whoF (l.drop k) k s.1 = T) ([], 0) [] (by omega) (by simp [hT]) (by simp [ownA_nil, ownT_nil]) ?_ ?_
  · rintro k ⟨D, n⟩ hk ⟨⟨hD, hn⟩, hp⟩ hw
    simp only at hD hn hp
    have wn : IntKind.i64.wrap ((n : Int) + 1) = (n : Int) + 1 := w64 (by omega) (by omega)
    have hkl : (k : Int) < l.length := by omega
    rw [List.drop_eq_getElem_cons hk] at hp
    simp only [pages] at hp
    by_cases h0 : D = []
    · subst h0
      have hr0 : ¬ (0 : Int) = room := by omega
      have hnx : nextC room whoF [] k l[k] = [l[k]] := by unfold nextC; rw [if_neg (by simp; omega)]; rfl
      rw [if_neg (by simp), hnx] at hp
      simp [Try.ntmps44, Try.results44, cSl, cp0, cp1, cn0, cI, cD, rI, irow, hk, hw, ownA_nil, ownT_nil, wn, hr0]
      exact ⟨[l[k]], n + 1, by simp; omega, [1], by simp [ownT], by simp [ownA, ownT, irow]⟩
    · have hpos : 0 < D.length := List.length_pos_iff.2 h0
      have o1 : ownA 0 1 (D.map (irow .i64)) = .osl 0 1 0 D.length D.length := by simp [ownA, h0]
      have t1 : ownT 1 (D.map (irow .i64)) = [some (1, D.map (irow .i64))] := by simp [ownT, h0]
      have hD2 : D.length ≤ 4294967296 := by omega
      by_cases hm : l[k] ∈ D
      · rw [if_pos hm] at hp
        simp [Try.ntmps44, Try.results44, cSl, cp0, cp1, cn0, cI, cD, rI, irow, hk, hw, o1, t1, hD2, hm, hpos]
        exact ⟨D, n, by omega, [0], by simp [ownT, h0], by simp [ownA, ownT, h0]⟩
      · rw [if_neg hm] at hp
        have hlt := nextC_len (room := room) (who := whoF) (C := D) (t := k) (p := l[k])
        have n1 : ¬ D.length + 1 ≤ D.length := by omega
        have n2 : D.length + 1 ≤ 4294967296 := by omega
        by_cases hf : D.length = room
        · subst hf
          have hq : whoF D k < D.length := hpos
          have hnx : nextC D.length whoF D k l[k] = D.eraseIdx (whoF D k) ++ [l[k]] := by unfold nextC; rw [if_pos rfl]
          rw [hnx] at hp hlt
          have hcl : ((whoF D k : Nat) : Int) = 0 := rfl
          generalize whoF D k = q at hq hp hlt hcl
          obtain rfl : q = 0 := by omega
          have wq : IntKind.i64.wrap (((0 : Nat) : Int) + 1) = ((0 : Nat) : Int) + 1 := w64 (by omega) (by omega)
          have d1 : D.length ≤ 1048576 := by omega
          have d2 : D.length - 1 + 1 ≤ 4294967296 := by omega
          have d3 : (D.eraseIdx 0).length = D.length - 1 := by rw [List.length_eraseIdx, if_pos hq]
          have d4 : (D.map (irow .i64)).eraseIdx 0 = (D.eraseIdx 0).map (irow .i64) := er_map
          have d5 : D.length - 1 + 1 = D.length := by omega
          have d6 : ¬ D.length ≤ D.length - 1 := by omega
          simp [Try.ntmps44, Try.results44, cSl, cp0, cp1, cn0, cI, cD, -List.eraseIdx_zero, rI, irow, rCapL, rS, cellDec, irowDec, hk, hkl, hw, o1, t1, hD2, hm, hpos, wn, hcl, deleteI, hq, wq, d1, d2, d3, d4, d5, d6, hl2]
          exact ⟨D.eraseIdx (0) ++ [l[k]], n + 1, ⟨⟨by omega, by omega⟩, by omega⟩, [2], by simp [ownT], by simp [-List.eraseIdx_zero, ownA, ownT, irow, d3, d5]⟩
        · have hf' : ¬ (D.length : Int) = room := by omega
          have hnx : nextC room whoF D k l[k] = D ++ [l[k]] := by unfold nextC; rw [if_neg hf]
          rw [hnx] at hp
          simp [Try.ntmps44, Try.results44, cSl, cp0, cp1, cn0, cI, cD, rI, irow, hk, hw, o1, t1, hD2, hm, hpos, wn, hf', n1, n2]
          exact ⟨D ++ [l[k]], n + 1, by simp; omega, [2], by simp [ownT], by simp [ownA, ownT, irow]⟩
  · rintro ⟨D, n⟩ ⟨_, hp⟩
    simp only [List.drop_length, pages, Nat.add_zero] at hp
    simp [Try.ntmps44, Try.results44, cSl, cp0, cp1, cn0, cI, cD, hp]
def bestI (l : List Int) (room : Int) : Int := if refsI l room = 0 then pages room.toNat (whoB l) l 0 [] else 0
def lruI (l : List Int) (room : Int) : Int := if refsI l room = 0 then pages room.toNat (whoL l) l 0 [] else 0
def fifoI (l : List Int) (room : Int) : Int := if refsI l room = 0 then pages room.toNat whoF l 0 [] else 0
theorem refs_ok {l : List Int} {room : Int} (h : refsI l room = 0) : l.length ≤ 60 ∧ 1 ≤ room ∧ room ≤ 8 := by
  unfold refsI at h
  split at h
  · simp at h
  · split at h
    · simp at h
    · omega
theorem lru_pure : PureOk Try.prog 21 (argM (cSl (rI .i64)) fun l => argM (cInt .i64) fun room => finM (some (.v (.tuple #[.int .i64 (lruI l room), .int .i64 (refsI l room)])))) := by
  refine pure2 Try.func21 rfl ?_
  rintro l room r hr
  simp only [Option.some.injEq] at hr
  subst hr
  refine body_gen ((noOrc_ok.withP refs_pure).withP faultsL_pure) fxMix (by kernel_rfl) (by simp [Try.ntmps21]) ?_
  intro C cP cI cN cD cF cA
  have cp0 := orcP refs_pure (C := C) (by rw [cP]; rfl)
  have cp1 := orcP faultsL_pure (C := C) (by rw [cP]; rfl)
  replace cI : C.inl = fun _ => false := cI
  replace cD : C.dyn = fun _ => [] := cD
  clear cP cN cF cA
  by_cases h0 : refsI l room = 0
  · obtain ⟨g1, g2, g3⟩ := refs_ok h0
    simp [Try.ntmps21, Try.results21, cSl, cp0, cp1, cI, cD, lruI, h0, g1, g2, g3, rI, rS, rCapL, cellDec, rNil]
  · simp [Try.ntmps21, Try.results21, cSl, cp0, cp1, cI, cD, lruI, h0, rI, rS]
theorem best_pure : PureOk Try.prog 22 (argM (cSl (rI .i64)) fun l => argM (cInt .i64) fun room => finM (some (.v (.tuple #[.int .i64 (bestI l room), .int .i64 (refsI l room)])))) := by
  refine pure2 Try.func22 rfl ?_
  rintro l room r hr
  simp only [Option.some.injEq] at hr
  subst hr
  refine body_gen ((noOrc_ok.withP refs_pure).withP faultsB_pure) fxMix (by kernel_rfl) (by simp [Try.ntmps22]) ?_
  intro C cP cI cN cD cF cA
  have cp0 := orcP refs_pure (C := C) (by rw [cP]; rfl)
  have cp1 := orcP faultsB_pure (C := C) (by rw [cP]; rfl)
  replace cI : C.inl = fun _ => false := cI
  replace cD : C.dyn = fun _ => [] := cD
  clear cP cN cF cA
  by_cases h0 : refsI l room = 0
  · obtain ⟨g1, g2, g3⟩ := refs_ok h0
    simp [Try.ntmps22, Try.results22, cSl, cp0, cp1, cI, cD, bestI, h0, g1, g2, g3, rI, rS, rCapL, cellDec, rNil]
  · simp [Try.ntmps22, Try.results22, cSl, cp0, cp1, cI, cD, bestI, h0, rI, rS]
theorem fifo_pure : PureOk Try.prog 24 (argM (cSl (rI .i64)) fun l => argM (cInt .i64) fun room => finM (some (.v (.tuple #[.int .i64 (fifoI l room), .int .i64 (refsI l room)])))) := by
  refine pure2 Try.func24 rfl ?_
  rintro l room r hr
  simp only [Option.some.injEq] at hr
  subst hr
  refine body_gen ((noOrc_ok.withP refs_pure).withP faultsF_pure) fxMix (by kernel_rfl) (by simp [Try.ntmps24]) ?_
  intro C cP cI cN cD cF cA
  have cp0 := orcP refs_pure (C := C) (by rw [cP]; rfl)
  have cp1 := orcP faultsF_pure (C := C) (by rw [cP]; rfl)
  replace cI : C.inl = fun _ => false := cI
  replace cD : C.dyn = fun _ => [] := cD
  clear cP cN cF cA
  by_cases h0 : refsI l room = 0
  · obtain ⟨g1, g2, g3⟩ := refs_ok h0
    simp [Try.ntmps24, Try.results24, cSl, cp0, cp1, cI, cD, fifoI, h0, g1, g2, g3, rI, rS, rCapL, cellDec, rNil]
  · simp [Try.ntmps24, Try.results24, cSl, cp0, cp1, cI, cD, fifoI, h0, rI, rS]
end Go.Proofs.Ytigpgieapamffaa
