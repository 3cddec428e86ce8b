/- Package rmap: pairs, their order, Check. -/
import Derived.Test.YtigpgieapamffaaGoA
namespace Go.Proofs.Ytigpgieapamffaa
open Go.AI
set_option maxHeartbeats 2000000
set_option maxRecDepth 100000
set_option linter.unusedSimpArgs false
set_option linter.unusedVariables false
attribute [local simp] wpA wpX RunA RunD runF foot footP footB idsA bare apart runL step1 gsel_f gsel_t gsel_s res_same res_and1 res_and2 res_and3 res_and4 res_and5 res_and6 res_false res_true res_v res_ptr res_fptr res_osl res_xsl soft aAppendZ aCap ovlI ovlJ res_fsl res_esl res_agg res_tup res_fn res_junk res_anyb aPick hk imp_left iteV dstOk guardOk astep astepE AI.ev AI.look AI.put envOf aBox cellsOf allOne allOneA oneA Value.oneCell' Value.cells newObj' aFieldAddr aLoad obj readAt thenA blockA condA retA resA tupA view hot hotC hotR depthV cAgg cInt cBool mkAgg allV aAlloc aBuild fillA writeAt aStore isAggA aField idx aIndexAddr aIndex bnd aSlice aExtract aLen aBuiltin aCall isStatic eqAgg eqTy eqC ev_add ev_sub ev_mul ev_quo ev_rem ev_and ev_or ev_xor ev_andNot ev_shl ev_shr ev_eql ev_neq ev_lss ev_leq ev_gtr ev_geq ev_agg w64 wu32 wu8 ev_not ev_neg Cod.plain RCod.plain argM finM cold coldC coldR goInt intDec boolDec aggDec Weaker heapW lowA lowC Again slDec undef aBuildSlice setRows aAppend rowsOf aMakeSlice aClear aCopy softer_self softer_nil valsOf ev_min2 ev_max2 hotR_set hotR_append take_map_set irow_cold irow_mapM irow_mapMc irow_view irow_viewc irow_hotR irow_ren irow_renc irow_low WeakT heapT thOf ren renC AgainT NextF NextT fnDec cFn rNil selfLt natLt0 natLt1 getLastMap frame0 frame1 own0 own1 argG finG tau tauI tauO tauC bareA bareC bareH irow_tau irow_tauc irow_bare irow_flat irow_bareR ownA_nil ownT_nil ownA_c ownT_c ownA_s ownT_s takeMapLen footC plainA noId noIdC cloneF frame0F frame1F insertF replaceI replaceF cellDec rCell fpDec cFp rTwo deleteF allV_oA oneA_oA res_oA RunR RunE runFT footAt hotR_cat tmodN fxSz2 fxBy2 fxAg2 fxZe2 fxSl2 fxAr2 fxPl2 fxSz3 fxBy3 fxAg3 fxZe3 fxSl3 fxAr3 fxPl3 fxSz4 fxBy4 fxAg4 fxZe4 fxSl4 fxAr4 fxPl4 fxSz5 fxBy5 fxAg5 fxZe5 fxSl5 fxAr5 fxPl5 fxSz9 fxBy9 fxAg9 fxZe9 fxSl9 fxAr9 fxPl9 fxSz12 fxBy12 fxAg12 fxZe12 fxSl12 fxAr12 fxPl12 fxSz13 fxBy13 fxAg13 fxZe13 fxSl13 fxAr13 fxFi13x0 fxFi13x1 fxPl13 fxSz21 fxBy21 fxAg21 fxZe21 fxSl21 fxAr21 fxPl21 fxSz22 fxBy22 fxAg22 fxZe22 fxSl22 fxAr22 fxPl22 fxSz23 fxBy23 fxAg23 fxZe23 fxSl23 fxAr23 fxFi23x0 fxFi23x1 fxPl23 fxSz24 fxBy24 fxAg24 fxZe24 fxSl24 fxAr24 fxFi24x0 fxFi24x1 fxPl24 fxSz25 fxBy25 fxAg25 fxZe25 fxSl25 fxAr25 fxPl25 fxSz29 fxBy29 fxAg29 fxZe29 fxSl29 fxAr29 fxFi29x0 fxFi29x1 fxFi29x2 fxPl29 fxSz30 fxBy30 fxAg30 fxZe30 fxSl30 fxAr30 fxFi30x0 fxFi30x1 fxFi30x2 fxPl30 fxSz38 fxBy38 fxAg38 fxZe38 fxSl38 fxAr38 fxPl38 fxSz46 fxBy46 fxAg46 fxZe46 fxSl46 fxAr46 fxPl46 fxSz47 fxBy47 fxAg47 fxZe47 fxSl47 fxAr47 fxFi47x0 fxFi47x1 fxFi47x2 fxPl47 fxSz48 fxBy48 fxAg48 fxZe48 fxSl48 fxAr48 fxFi48x0 fxFi48x1 fxFi48x2 fxPl48 fxSz66 fxBy66 fxAg66 fxZe66 fxSl66 fxAr66 fxPl66 fxSz74 fxBy74 fxAg74 fxZe74 fxSl74 fxAr74 fxPl74 fxSz79 fxBy79 fxAg79 fxZe79 fxSl79 fxAr79 fxPl79 fxSz91 fxBy91 fxAg91 fxZe91 fxSl91 fxAr91 fxPl91 fxSz92 fxBy92 fxAg92 fxZe92 fxSl92 fxAr92 fxPl92 fxSz99 fxBy99 fxAg99 fxZe99 fxSl99 fxAr99 fxPl99 fxSz105 fxBy105 fxAg105 fxZe105 fxSl105 fxAr105 fxPl105 fxSz107 fxBy107 fxAg107 fxZe107 fxSl107 fxAr107 fxPl107 fxSz113 fxBy113 fxAg113 fxZe113 fxSl113 fxAr113 fxPl113 fxSz117 fxBy117 fxAg117 fxZe117 fxSl117 fxAr117 fxPl117 fxSz126 fxBy126 fxAg126 fxZe126 fxSl126 fxAr126 fxPl126 fxSz136 fxBy136 fxAg136 fxZe136 fxSl136 fxAr136 fxPl136 fxSz137 fxBy137 fxAg137 fxZe137 fxSl137 fxAr137 fxFi137x0 fxPl137 fxSz143 fxBy143 fxAg143 fxZe143 fxSl143 fxAr143 fxPl143 fxSz148 fxBy148 fxAg148 fxZe148 fxSl148 fxAr148 fxPl148 fxEq30 fxEq48 fxEq92 fxCv2x2 fxCv2x3 fxCv2x5 fxCv2x12 fxCv2x21 fxCv2x25 fxCv2x79 fxCv2x99 fxCv2x105 fxCv2x107 fxCv2x113 fxCv3x2 fxCv3x3 fxCv3x5 fxCv3x12 fxCv3x21 fxCv3x25 fxCv3x79 fxCv3x99 fxCv3x105 fxCv3x107 fxCv3x113 fxCv5x2 fxCv5x3 fxCv5x5 fxCv5x12 fxCv5x21 fxCv5x25 fxCv5x79 fxCv5x99 fxCv5x105 fxCv5x107 fxCv5x113 fxCv12x2 fxCv12x3 fxCv12x5 fxCv12x12 fxCv12x21 fxCv12x25 fxCv12x79 fxCv12x99 fxCv12x105 fxCv12x107 fxCv12x113 fxCv21x2 fxCv21x3 fxCv21x5 fxCv21x12 fxCv21x21 fxCv21x25 fxCv21x79 fxCv21x99 fxCv21x105 fxCv21x107 fxCv21x113 fxCv25x2 fxCv25x3 fxCv25x5 fxCv25x12 fxCv25x21 fxCv25x25 fxCv25x79 fxCv25x99 fxCv25x105 fxCv25x107 fxCv25x113 fxCv79x2 fxCv79x3 fxCv79x5 fxCv79x12 fxCv79x21 fxCv79x25 fxCv79x79 fxCv79x99 fxCv79x105 fxCv79x107 fxCv79x113 fxCv99x2 fxCv99x3 fxCv99x5 fxCv99x12 fxCv99x21 fxCv99x25 fxCv99x79 fxCv99x99 fxCv99x105 fxCv99x107 fxCv99x113 fxCv105x2 fxCv105x3 fxCv105x5 fxCv105x12 fxCv105x21 fxCv105x25 fxCv105x79 fxCv105x99 fxCv105x105 fxCv105x107 fxCv105x113 fxCv107x2 fxCv107x3 fxCv107x5 fxCv107x12 fxCv107x21 fxCv107x25 fxCv107x79 fxCv107x99 fxCv107x105 fxCv107x107 fxCv107x113 fxCv113x2 fxCv113x3 fxCv113x5 fxCv113x12 fxCv113x21 fxCv113x25 fxCv113x79 fxCv113x99 fxCv113x105 fxCv113x107 fxCv113x113 fxEb4 fxNb4 fxLt9 fxLn22 fxNe22 fxNn22 fxOe22 fxOn22 fxXe22 fxXn22 fxLn38 fxNe38 fxNn38 fxOe38 fxOn38 fxXe38 fxXn38 fxLn46 fxNe46 fxNn46 fxOe46 fxOn46 fxXe46 fxXn46 fxLn74 fxNe74 fxNn74 fxOe74 fxOn74 fxXe74 fxXn74 fxFn3 fxFm3 fxFb3 fxFi3 fxFj3 fxFn4 fxFm4 fxFb4 fxFi4 fxFj4 fxFn5 fxFm5 fxFb5 fxFi5 fxFj5 fxFn6 fxFm6 fxFb6 fxFi6 fxFj6 fxFn7 fxFm7 fxFb7 fxFi7 fxFj7 fxFn8 fxFm8 fxFb8 fxFi8 fxFj8 fxFn9 fxFm9 fxFb9 fxFi9 fxFj9 fxFn10 fxFm10 fxFb10 fxFi10 fxFj10 fxFn11 fxFm11 fxFb11 fxFi11 fxFj11 fxFn12 fxFm12 fxFb12 fxFi12 fxFj12 fxFn13 fxFm13 fxFb13 fxFi13 fxFj13 fxFn14 fxFm14 fxFb14 fxFi14 fxFj14 fxFn15 fxFm15 fxFb15 fxFi15 fxFj15 fxFn16 fxFm16 fxFb16 fxFi16 fxFj16 fxFn17 fxFm17 fxFb17 fxFi17 fxFj17 fxFn18 fxFm18 fxFb18 fxFi18 fxFj18 fxFn19 fxFm19 fxFb19 fxFi19 fxFj19 fxFn20 fxFm20 fxFb20 fxFi20 fxFj20 fxFn21 fxFm21 fxFb21 fxFi21 fxFj21 fxFn22 fxFm22 fxFb22 fxFi22 fxFj22 fxFn23 fxFm23 fxFb23 fxFi23 fxFj23 fxFn24 fxFm24 fxFb24 fxFi24 fxFj24 fxFn25 fxFm25 fxFb25 fxFi25 fxFj25 fxFn26 fxFm26 fxFb26 fxFi26 fxFj26 fxFn27 fxFm27 fxFb27 fxFi27 fxFj27 fxFn28 fxFm28 fxFb28 fxFi28 fxFj28 fxFn29 fxFm29 fxFb29 fxFi29 fxFj29 fxFn30 fxFm30 fxFb30 fxFi30 fxFj30 fxFn31 fxFm31 fxFb31 fxFi31 fxFj31 fxFn32 fxFm32 fxFb32 fxFi32 fxFj32 fxFn33 fxFm33 fxFb33 fxFi33 fxFj33 fxFn34 fxFm34 fxFb34 fxFi34 fxFj34 fxFn35 fxFm35 fxFb35 fxFi35 fxFj35 fxFn36 fxFm36 fxFb36 fxFi36 fxFj36 fxFn37 fxFm37 fxFb37 fxFi37 fxFj37 fxFn38 fxFm38 fxFb38 fxFi38 fxFj38 fxFn39 fxFm39 fxFb39 fxFi39 fxFj39 fxFn40 fxFm40 fxFb40 fxFi40 fxFj40 fxFn41 fxFm41 fxFb41 fxFi41 fxFj41 fxFn42 fxFm42 fxFb42 fxFi42 fxFj42 fxFn43 fxFm43 fxFb43 fxFi43 fxFj43 fxFn44 fxFm44 fxFb44 fxFi44 fxFj44 fxFn45 fxFm45 fxFb45 fxFi45 fxFj45 fxFn46 fxFm46 fxFb46 fxFi46 fxFj46 fxFn47 fxFm47 fxFb47 fxFi47 fxFj47 fxFn48 fxFm48 fxFb48 fxFi48 fxFj48 fxFn49 fxFm49 fxFb49 fxFi49 fxFj49 fxFn50 fxFm50 fxFb50 fxFi50 fxFj50 fxFn51 fxFm51 fxFb51 fxFi51 fxFj51 fxFn52 fxFm52 fxFb52 fxFi52 fxFj52 fxFn53 fxFm53 fxFb53 fxFi53 fxFj53 fxFn54 fxFm54 fxFb54 fxFi54 fxFj54 fxFn55 fxFm55 fxFb55 fxFi55 fxFj55 fxFn56 fxFm56 fxFb56 fxFi56 fxFj56 fxFn57 fxFm57 fxFb57 fxFi57 fxFj57 fxFn58 fxFm58 fxFb58 fxFi58 fxFj58 fxFn59 fxFm59 fxFb59 fxFi59 fxFj59 fxFn60 fxFm60 fxFb60 fxFi60 fxFj60 fxFn61 fxFm61 fxFb61 fxFi61 fxFj61 fxFn62 fxFm62 fxFb62 fxFi62 fxFj62 fxFn63 fxFm63 fxFb63 fxFi63 fxFj63 fxFn64 fxFm64 fxFb64 fxFi64 fxFj64 fxFn65 fxFm65 fxFb65 fxFi65 fxFj65 fxFn66 fxFm66 fxFb66 fxFi66 fxFj66 fxFn67 fxFm67 fxFb67 fxFi67 fxFj67 fxFn68 fxFm68 fxFb68 fxFi68 fxFj68 fxFn69 fxFm69 fxFb69 fxFi69 fxFj69 fxFn70 fxFm70 fxFn71 fxFm71 fxFb71 fxFi71 fxFj71 fxFn72 fxFm72 fxFb72 fxFi72 fxFj72 fxFn73 fxFm73 fxFb73 fxFi73 fxFj73 fxFn74 fxFm74 fxFb74 fxFi74 fxFj74 fxFn75 fxFm75 fxFb75 fxFi75 fxFj75 fxFn76 fxFm76 fxFb76 fxFi76 fxFj76 fxFn77 fxFm77 fxFb77 fxFi77 fxFj77 fxFn78 fxFm78 fxFb78 fxFi78 fxFj78 fxFn79 fxFm79 fxFb79 fxFi79 fxFj79 fxFn80 fxFm80 fxFb80 fxFi80 fxFj80 fxFn81 fxFm81 fxFb81 fxFi81 fxFj81 fxFn82 fxFm82 fxFb82 fxFi82 fxFj82 fxFn83 fxFm83 fxFb83 fxFi83 fxFj83 fxFn84 fxFm84 fxFb84 fxFi84 fxFj84 fxFn85 fxFm85 fxFb85 fxFi85 fxFj85 fxFn86 fxFm86 fxFb86 fxFi86 fxFj86 fxFn87 fxFm87 fxFb87 fxFi87 fxFj87 fxFn88 fxFm88 fxFb88 fxFi88 fxFj88 fxFn89 fxFm89 fxFn90 fxFm90 fxFb90 fxFi90 fxFj90 fxFn91 fxFm91 fxFb91 fxFi91 fxFj91 fxFn92 fxFm92 fxFb92 fxFi92 fxFj92 fxFn93 fxFm93 fxFb93 fxFi93 fxFj93 fxFn94 fxFm94 fxFb94 fxFi94 fxFj94 fxFn95 fxFm95 fxFb95 fxFi95 fxFj95 fxFn96 fxFm96 fxFb96 fxFi96 fxFj96 fxFn97 fxFm97 fxFb97 fxFi97 fxFj97 fxFn98 fxFm98 fxFb98 fxFi98 fxFj98 fxFn99 fxFm99 fxFb99 fxFi99 fxFj99 fxFn100 fxFm100 fxFb100 fxFi100 fxFj100 fxFn101 fxFm101 fxFb101 fxFi101 fxFj101 fxFn102 fxFm102 fxFb102 fxFi102 fxFj102 fxFn103 fxFm103 fxFb103 fxFi103 fxFj103 fxFn104 fxFm104 fxFb104 fxFi104 fxFj104 fxFn105 fxFm105 fxFb105 fxFi105 fxFj105 fxFn106 fxFm106 fxFb106 fxFi106 fxFj106 fxFn107 fxFm107 fxFb107 fxFi107 fxFj107 fxFn108 fxFm108 fxFb108 fxFi108 fxFj108 fxFn109 fxFm109 fxFb109 fxFi109 fxFj109 fxFn110 fxFm110 fxFb110 fxFi110 fxFj110 fxFn111 fxFm111 fxFb111 fxFi111 fxFj111 fxFn112 fxFm112 fxFb112 fxFi112 fxFj112 fxFn113 fxFm113 fxFb113 fxFi113 fxFj113 fxFn114 fxFm114 fxFb114 fxFi114 fxFj114
structure Pr where
  frame : Int
  space : Int
  page : Int
  deriving DecidableEq
def prDec : Row → Option Pr
  | [.v (.int .i64 x0), .v (.int .i64 x1), .v (.int .i64 x2)] => some ⟨x0, x1, x2⟩
  | _ => none
def Pr.row (e : Pr) : Row := [.v (.int .i64 e.frame), .v (.int .i64 e.space), .v (.int .i64 e.page)]
def rPr : RCod Pr := RCod.plain 3 Pr.row prDec
  (fun e => rfl) (fun _ => rfl) (fun r e h => by
    unfold prDec at h
    split at h
    · simp at h; subst h; rfl
    · cases h)
def Pr.val (e : Pr) : Value := .agg #[.int .i64 e.frame, .int .i64 e.space, .int .i64 e.page]
theorem Pr.eta (e : Pr) : Pr.mk e.frame e.space e.page = e := rfl
attribute [local simp] Pr.eta
theorem Pr.cold (l : List Pr) : coldR (l.map Pr.row) = l.map Pr.row := by
  induction l with
  | nil => simp [coldR]
  | cons e l ih => simp [coldR, coldC, AI.cold, ih, Pr.row]
theorem Pr.mapM (l : List Pr) : (l.map Pr.row).mapM prDec = some l := mapM_dec rPr l
theorem Pr.mapMc (l : List Pr) : l.mapM (prDec ∘ Pr.row) = some l := mapM_dec' rPr l
theorem Pr.view (H : Heap) (n : Nat) (e : Pr) : List.map (AI.view H n) e.row = e.row := by cases n <;> simp [Pr.row, AI.view]
theorem Pr.viewc (H : Heap) (n : Nat) : List.map (AI.view H n) ∘ Pr.row = Pr.row := by funext e; exact Pr.view H n e
theorem Pr.hotR (l : List Pr) : AI.hotR (l.map Pr.row) = true := by
  induction l with
  | nil => simp [AI.hotR]
  | cons e l ih => simp [AI.hotR, hotC, hot, ih, Pr.row]
theorem Pr.ren (n : Nat) (th : List Nat) (e : Pr) : List.map (AI.ren n th) e.row = e.row := by simp [Pr.row, AI.ren]
theorem Pr.renc (n : Nat) (th : List Nat) : List.map (AI.ren n th) ∘ Pr.row = Pr.row := by funext e; exact Pr.ren n th e
theorem Pr.low (n : Nat) (e : Pr) : e.row.all (lowA n) = true := by simp [Pr.row, lowA]
theorem Pr.tau (fp : List Nat) (n : Nat) (e : Pr) : List.map (AI.tau fp n) e.row = e.row := by simp [Pr.row, AI.tau]
theorem Pr.tauc (fp : List Nat) (n : Nat) : List.map (AI.tau fp n) ∘ Pr.row = Pr.row := by funext e; exact Pr.tau fp n e
theorem Pr.bare (e : Pr) : e.row.all bareA = true := by simp [Pr.row, bareA]
theorem Pr.flat (l : List Pr) : flat0 (l.map Pr.row) = true := by simp [flat0, Pr.low]
theorem Pr.flat1 (e : Pr) : flat0 [e.row] = true := by simp [flat0, Pr.low]
theorem Pr.exact : Exact rPr := by
  intro r e h
  simp only [rPr, RCod.plain] at h ⊢
  unfold prDec at h
  split at h
  · simp at h; subst h; rfl
  · cases h
theorem Pr.mapMt (k : Nat) (l : List Pr) : (List.take k (l.map Pr.row)).mapM prDec = some (l.take k) := by rw [← List.map_take]; exact mapM_dec rPr _
theorem Pr.mapMd (k : Nat) (l : List Pr) : (List.drop k (l.map Pr.row)).mapM prDec = some (l.drop k) := by rw [← List.map_drop]; exact mapM_dec rPr _
theorem Pr.coldt (k : Nat) (l : List Pr) : coldR (List.take k (l.map Pr.row)) = List.take k (l.map Pr.row) := by rw [← List.map_take]; exact Pr.cold _
theorem Pr.coldd (k : Nat) (l : List Pr) : coldR (List.drop k (l.map Pr.row)) = List.drop k (l.map Pr.row) := by rw [← List.map_drop]; exact Pr.cold _
theorem Pr.hotRt (k : Nat) (l : List Pr) : AI.hotR (List.take k (l.map Pr.row)) = true := by rw [← List.map_take]; exact Pr.hotR _
theorem Pr.hotRd (k : Nat) (l : List Pr) : AI.hotR (List.drop k (l.map Pr.row)) = true := by rw [← List.map_drop]; exact Pr.hotR _
attribute [local simp] Pr.hotRt Pr.hotRd
attribute [local simp] Pr.tau Pr.tauc Pr.bare Pr.flat Pr.flat1 Pr.mapMt Pr.mapMd Pr.coldt Pr.coldd
attribute [local simp] Pr.cold Pr.mapM Pr.mapMc Pr.view Pr.viewc Pr.hotR Pr.ren Pr.renc Pr.low
theorem pr_eq (a b : Pr) : a = b ↔ (a.frame = b.frame ∧ a.space = b.space ∧ a.page = b.page) := by cases a; cases b; simp
def Pr.right (p : Pr) : Bool := decide (0 ≤ p.frame ∧ p.frame < 64 ∧ 1 ≤ p.space ∧ p.space ≤ 16 ∧ 0 ≤ p.page ∧ p.page < 64)
theorem Pr.right_iff {p : Pr} : p.right = true ↔ 0 ≤ p.frame ∧ p.frame < 64 ∧ 1 ≤ p.space ∧ p.space ≤ 16 ∧ 0 ≤ p.page ∧ p.page < 64 := by simp [Pr.right]
theorem right_pure : PureOk Try.prog 67 (argM (cAgg rPr) fun a => finM (some (.v (.bool a.right)))) := by
  refine pure1 Try.func67 rfl ?_
  rintro a r hr
  simp only [Option.some.injEq] at hr
  subst hr
  refine body_gen noOrc_ok fxMix (by kernel_rfl) (by simp [Try.ntmps67]) ?_
  intro C cP cI cN cD cF cA
  replace cI : C.inl = fun _ => false := cI
  replace cD : C.dyn = fun _ => [] := cD
  clear cP cN cF cA
  unfold Pr.right
  by_cases h1 : 0 ≤ a.frame <;> by_cases h2 : a.frame < 64 <;> by_cases h3 : 1 ≤ a.space <;> by_cases h4 : a.space ≤ 16 <;> by_cases h5 : 0 ≤ a.page <;> by_cases h6 : a.page < 64 <;> simp [Try.ntmps67, Try.results67, cSl, cI, cD, rPr, Pr.row, h1, h2, h3, h4, h5, h6]
theorem nan_pure : PureOk Try.prog 98 (argM (cInt .i64) fun x => finM (some (.v (.bool false)))) := by
  refine pure1 Try.func98 rfl ?_
  rintro x r hr
  simp only [Option.some.injEq] at hr
  subst hr
  refine body_gen noOrc_ok fxMix (by kernel_rfl) (by simp [Try.ntmps98]) ?_
  intro C cP cI cN cD cF cA
  replace cI : C.inl = fun _ => false := cI
  replace cD : C.dyn = fun _ => [] := cD
  clear cP cN cF cA
  simp [Try.ntmps98, Try.results98, cSl, cI, cD]
def cmpI (x y : Int) : Int := if x < y then -1 else if y < x then 1 else 0
theorem cmp_pure : PureOk Try.prog 88 (argM (cInt .i64) fun x => argM (cInt .i64) fun y => finM (some (.v (.int .i64 (cmpI x y))))) := by
  refine pure2 Try.func88 rfl ?_
  rintro x y r hr
  simp only [Option.some.injEq] at hr
  subst hr
  refine body_gen (noOrc_ok.withP nan_pure) fxMix (by kernel_rfl) (by simp [Try.ntmps88]) ?_
  intro C cP cI cN cD cF cA
  have cp0 := orcP nan_pure (C := C) (by rw [cP]; rfl)
  replace cI : C.inl = fun _ => false := cI
  replace cD : C.dyn = fun _ => [] := cD
  clear cP cN cF cA
  unfold cmpI
  by_cases h1 : x < y
  · simp [Try.ntmps88, Try.results88, cSl, cp0, cI, cD, h1]
  · by_cases h2 : y < x
    · simp [Try.ntmps88, Try.results88, cSl, cp0, cI, cD, h1, h2]
    · simp [Try.ntmps88, Try.results88, cSl, cp0, cI, cD, h1, h2]
def orI : List Int → Int
  | [] => 0
  | x :: r => if x = 0 then orI r else x
theorem or_pure : PureOk Try.prog 87 (argM (cSl (rI .i64)) fun l => finM (if l.length ≤ 4294967296 then some (.v (.int .i64 (orI l))) else none)) := by
  refine pure1 Try.func87 rfl ?_
  rintro l r hr
  by_cases hc : l.length ≤ 4294967296
  case neg => rw [if_neg hc] at hr; cases hr
  rw [if_pos hc] at hr
  simp only [Option.some.injEq] at hr
  subst hr
  refine body_gen noOrc_ok fxMix (by kernel_rfl) (by simp [Try.ntmps87]) ?_
  intro C cP cI cN cD cF cA
  replace cI : C.inl = fun _ => false := cI
  replace cD : C.dyn = fun _ => [] := cD
  clear cP cN cF cA
  simp [Try.ntmps87, Try.results87, cSl, cI, cD, rI]
  refine loop_for l.length (fun k (_ : Unit) => ([(3, .v (.int .i64 0)), (6, .fsl false 1 (l.map (irow .i64))), (7, .v (.int .i64 l.length)), (8, .v (.int .i64 k))], [])) (fun k _ => orI (l.drop k) = orI l) () hc (by simp) (by simp) ?_ ?_
  · intro k _ hk hall hw
    rw [List.drop_eq_getElem_cons hk, orI] at hall
    by_cases q : l[k] = 0
    · rw [if_pos q] at hall
      simp [Try.ntmps87, Try.results87, cSl, cI, cD, hk, irow, hw, q]
      exact hall
    · rw [if_neg q] at hall
      simp [Try.ntmps87, Try.results87, cSl, cI, cD, hk, irow, hw, q, hall]
      intro h
      exact absurd (hall.trans h) q
  · intro _ hall
    simp [orI] at hall
    simp [Try.ntmps87, Try.results87, cSl, cI, cD, ← hall]
def ordP (a b : Pr) : Int := if a.frame = b.frame then (if a.space = b.space then cmpI a.page b.page else cmpI a.space b.space) else cmpI a.frame b.frame
theorem cmpI_zero {x y : Int} : cmpI x y = 0 ↔ x = y := by unfold cmpI; split <;> (try split) <;> simp <;> omega
theorem ordP_or (a b : Pr) : orI [cmpI a.frame b.frame, cmpI a.space b.space, cmpI a.page b.page] = ordP a b := by
  unfold ordP
  simp only [orI, cmpI_zero]
  split
  · split
    · split
      · rename_i h; exact (cmpI_zero.2 h).symm
      · rfl
    · rfl
  · rfl
theorem order_pure : PureOk Try.prog 60 (argM (cAgg rPr) fun a => argM (cAgg rPr) fun b => finM (some (.v (.int .i64 (ordP a b))))) := by
  refine pure2 Try.func60 rfl ?_
  rintro a b r hr
  simp only [Option.some.injEq] at hr
  subst hr
  refine body_gen ((noOrc_ok.withP or_pure).withP cmp_pure) fxMix (by kernel_rfl) (by simp [Try.ntmps60]) ?_
  intro C cP cI cN cD cF cA
  have cp0 := orcP or_pure (C := C) (by rw [cP]; rfl)
  have cp1 := orcP cmp_pure (C := C) (by rw [cP]; rfl)
  replace cI : C.inl = fun _ => false := cI
  replace cD : C.dyn = fun _ => [] := cD
  clear cP cN cF cA
  simp [Try.ntmps60, Try.results60, cSl, cp0, cp1, cI, cD, rPr, Pr.row, rI, irow, irowDec, ordP_or]
end Go.Proofs.Ytigpgieapamffaa
