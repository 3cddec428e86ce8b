/- Package frame: Check, at, with, Take, Those; ringkeep2.frames. -/
import Derived.Test.YtdhkhnegnlmgiaaFacts
import Derived.Test.YtdhkhnegnlmgiaaAiZe
namespace Go.Proofs.Ytdhkhnegnlmgiaa
open Go.AI
set_option maxHeartbeats 2000000
set_option maxRecDepth 100000
set_option linter.unusedSimpArgs false
set_option linter.unusedVariables false
attribute [local simp] wpA wpX RunA RunD runF foot footP footB idsA bare apart runL step1 gsel_f gsel_t gsel_s res_same res_and1 res_and2 res_and3 res_and4 res_and5 res_and6 res_false res_true res_v res_ptr res_fptr res_osl res_xsl soft aAppendZ aCap ovlI ovlJ res_fsl res_esl res_agg res_tup res_fn res_junk res_anyb aPick hk imp_left iteV dstOk guardOk astep astepE AI.ev AI.look AI.put envOf aBox cellsOf allOne allOneA oneA Value.oneCell' Value.cells newObj' aFieldAddr aLoad obj readAt thenA blockA condA retA resA tupA view hot hotC hotR depthV cAgg cInt cBool mkAgg allV aAlloc aBuild fillA writeAt aStore isAggA aField idx aIndexAddr aIndex bnd aSlice aExtract aLen aBuiltin aCall isStatic eqAgg eqTy eqC ev_add ev_sub ev_mul ev_quo ev_rem ev_and ev_or ev_xor ev_andNot ev_shl ev_shr ev_eql ev_neq ev_lss ev_leq ev_gtr ev_geq ev_agg w64 wu32 wu8 ev_not ev_neg Cod.plain RCod.plain argM finM cold coldC coldR goInt intDec boolDec aggDec Weaker heapW lowA lowC Again slDec undef aBuildSlice setRows aAppend rowsOf aMakeSlice aClear aCopy softer_self softer_nil valsOf ev_min2 ev_max2 hotR_set hotR_append take_map_set irow_cold irow_mapM irow_mapMc irow_view irow_viewc irow_hotR irow_ren irow_renc irow_low WeakT heapT thOf ren renC AgainT NextF NextT fnDec cFn rNil selfLt natLt0 natLt1 getLastMap frame0 frame1 own0 own1 argG finG tau tauI tauO tauC bareA bareC bareH irow_tau irow_tauc irow_bare irow_flat irow_bareR ownA_nil ownT_nil ownA_c ownT_c ownA_s ownT_s takeMapLen footC plainA noId noIdC cloneF frame0F frame1F insertF replaceI replaceF cellDec rCell fpDec cFp rTwo deleteF allV_oA oneA_oA res_oA RunR RunE runFT footAt hotR_cat tmodN frameN newA newC newH fxSz2 fxBy2 fxAg2 fxZe2 fxSl2 fxAr2 fxPl2 fxSz3 fxBy3 fxAg3 fxZe3 fxSl3 fxAr3 fxPl3 fxSz4 fxBy4 fxAg4 fxZe4 fxSl4 fxAr4 fxPl4 fxSz5 fxBy5 fxAg5 fxZe5 fxSl5 fxAr5 fxPl5 fxSz9 fxBy9 fxAg9 fxZe9 fxSl9 fxAr9 fxPl9 fxSz12 fxBy12 fxAg12 fxZe12 fxSl12 fxAr12 fxPl12 fxSz13 fxBy13 fxAg13 fxZe13 fxSl13 fxAr13 fxFi13x0 fxFi13x1 fxPl13 fxSz21 fxBy21 fxAg21 fxZe21 fxSl21 fxAr21 fxPl21 fxSz22 fxBy22 fxAg22 fxZe22 fxSl22 fxAr22 fxPl22 fxSz23 fxBy23 fxAg23 fxZe23 fxSl23 fxAr23 fxFi23x0 fxFi23x1 fxPl23 fxSz24 fxBy24 fxAg24 fxZe24 fxSl24 fxAr24 fxFi24x0 fxFi24x1 fxPl24 fxSz26 fxBy26 fxAg26 fxZe26 fxSl26 fxAr26 fxPl26 fxSz28 fxBy28 fxAg28 fxZe28 fxSl28 fxAr28 fxPl28 fxSz29 fxBy29 fxAg29 fxZe29 fxSl29 fxAr29 fxFi29x0 fxFi29x1 fxFi29x2 fxFi29x3 fxFi29x4 fxPl29 fxSz30 fxBy30 fxAg30 fxZe30 fxSl30 fxAr30 fxFi30x0 fxFi30x1 fxFi30x2 fxFi30x3 fxFi30x4 fxPl30 fxSz48 fxBy48 fxAg48 fxZe48 fxSl48 fxAr48 fxPl48 fxSz49 fxBy49 fxAg49 fxZe49 fxSl49 fxAr49 fxPl49 fxSz53 fxBy53 fxAg53 fxZe53 fxSl53 fxAr53 fxFi53x0 fxFi53x1 fxFi53x2 fxFi53x3 fxPl53 fxSz54 fxBy54 fxAg54 fxZe54 fxSl54 fxAr54 fxFi54x0 fxFi54x1 fxFi54x2 fxFi54x3 fxPl54 fxSz59 fxBy59 fxAg59 fxZe59 fxSl59 fxAr59 fxPl59 fxSz63 fxBy63 fxAg63 fxZe63 fxSl63 fxAr63 fxPl63 fxSz68 fxBy68 fxAg68 fxZe68 fxSl68 fxAr68 fxPl68 fxSz75 fxBy75 fxAg75 fxZe75 fxSl75 fxAr75 fxPl75 fxSz90 fxBy90 fxAg90 fxZe90 fxSl90 fxAr90 fxFi90x0 fxFi90x1 fxFi90x2 fxPl90 fxSz91 fxBy91 fxAg91 fxZe91 fxSl91 fxAr91 fxFi91x0 fxFi91x1 fxFi91x2 fxPl91 fxSz96 fxBy96 fxAg96 fxZe96 fxSl96 fxAr96 fxPl96 fxSz108 fxBy108 fxAg108 fxZe108 fxSl108 fxAr108 fxPl108 fxSz115 fxBy115 fxAg115 fxZe115 fxSl115 fxAr115 fxPl115 fxSz117 fxBy117 fxAg117 fxZe117 fxSl117 fxAr117 fxPl117 fxSz124 fxBy124 fxAg124 fxZe124 fxSl124 fxAr124 fxPl124 fxSz128 fxBy128 fxAg128 fxZe128 fxSl128 fxAr128 fxPl128 fxSz133 fxBy133 fxAg133 fxZe133 fxSl133 fxAr133 fxPl133 fxSz140 fxBy140 fxAg140 fxZe140 fxSl140 fxAr140 fxPl140 fxSz141 fxBy141 fxAg141 fxZe141 fxSl141 fxAr141 fxFi141x0 fxPl141 fxSz147 fxBy147 fxAg147 fxZe147 fxSl147 fxAr147 fxPl147 fxSz152 fxBy152 fxAg152 fxZe152 fxSl152 fxAr152 fxPl152 fxEq28 fxEq30 fxEq54 fxEq91 fxCv2x2 fxCv2x3 fxCv2x5 fxCv2x12 fxCv2x21 fxCv2x26 fxCv2x96 fxCv2x108 fxCv2x115 fxCv2x117 fxCv2x124 fxCv3x2 fxCv3x3 fxCv3x5 fxCv3x12 fxCv3x21 fxCv3x26 fxCv3x96 fxCv3x108 fxCv3x115 fxCv3x117 fxCv3x124 fxCv5x2 fxCv5x3 fxCv5x5 fxCv5x12 fxCv5x21 fxCv5x26 fxCv5x96 fxCv5x108 fxCv5x115 fxCv5x117 fxCv5x124 fxCv12x2 fxCv12x3 fxCv12x5 fxCv12x12 fxCv12x21 fxCv12x26 fxCv12x96 fxCv12x108 fxCv12x115 fxCv12x117 fxCv12x124 fxCv21x2 fxCv21x3 fxCv21x5 fxCv21x12 fxCv21x21 fxCv21x26 fxCv21x96 fxCv21x108 fxCv21x115 fxCv21x117 fxCv21x124 fxCv26x2 fxCv26x3 fxCv26x5 fxCv26x12 fxCv26x21 fxCv26x26 fxCv26x96 fxCv26x108 fxCv26x115 fxCv26x117 fxCv26x124 fxCv96x2 fxCv96x3 fxCv96x5 fxCv96x12 fxCv96x21 fxCv96x26 fxCv96x96 fxCv96x108 fxCv96x115 fxCv96x117 fxCv96x124 fxCv108x2 fxCv108x3 fxCv108x5 fxCv108x12 fxCv108x21 fxCv108x26 fxCv108x96 fxCv108x108 fxCv108x115 fxCv108x117 fxCv108x124 fxCv115x2 fxCv115x3 fxCv115x5 fxCv115x12 fxCv115x21 fxCv115x26 fxCv115x96 fxCv115x108 fxCv115x115 fxCv115x117 fxCv115x124 fxCv117x2 fxCv117x3 fxCv117x5 fxCv117x12 fxCv117x21 fxCv117x26 fxCv117x96 fxCv117x108 fxCv117x115 fxCv117x117 fxCv117x124 fxCv124x2 fxCv124x3 fxCv124x5 fxCv124x12 fxCv124x21 fxCv124x26 fxCv124x96 fxCv124x108 fxCv124x115 fxCv124x117 fxCv124x124 fxEb4 fxNb4 fxLt9 fxLn22 fxNe22 fxNn22 fxOe22 fxOn22 fxXe22 fxXn22 fxLn48 fxNe48 fxNn48 fxOe48 fxOn48 fxXe48 fxXn48 fxLn49 fxNe49 fxNn49 fxOe49 fxOn49 fxXe49 fxXn49 fxLn59 fxNe59 fxNn59 fxOe59 fxOn59 fxXe59 fxXn59 fxLn63 fxNe63 fxNn63 fxOe63 fxOn63 fxXe63 fxXn63 fxLn75 fxNe75 fxNn75 fxOe75 fxOn75 fxXe75 fxXn75 fxFn3 fxFm3 fxFb3 fxFi3 fxFj3 fxFn4 fxFm4 fxFb4 fxFi4 fxFj4 fxFn5 fxFm5 fxFb5 fxFi5 fxFj5 fxFn6 fxFm6 fxFb6 fxFi6 fxFj6 fxFn7 fxFm7 fxFb7 fxFi7 fxFj7 fxFn8 fxFm8 fxFb8 fxFi8 fxFj8 fxFn9 fxFm9 fxFb9 fxFi9 fxFj9 fxFn10 fxFm10 fxFb10 fxFi10 fxFj10 fxFn11 fxFm11 fxFb11 fxFi11 fxFj11 fxFn12 fxFm12 fxFb12 fxFi12 fxFj12 fxFn13 fxFm13 fxFb13 fxFi13 fxFj13 fxFn14 fxFm14 fxFb14 fxFi14 fxFj14 fxFn15 fxFm15 fxFb15 fxFi15 fxFj15 fxFn16 fxFm16 fxFb16 fxFi16 fxFj16 fxFn17 fxFm17 fxFb17 fxFi17 fxFj17 fxFn18 fxFm18 fxFb18 fxFi18 fxFj18 fxFn19 fxFm19 fxFb19 fxFi19 fxFj19 fxFn20 fxFm20 fxFb20 fxFi20 fxFj20 fxFn21 fxFm21 fxFb21 fxFi21 fxFj21 fxFn22 fxFm22 fxFb22 fxFi22 fxFj22 fxFn23 fxFm23 fxFb23 fxFi23 fxFj23 fxFn24 fxFm24 fxFb24 fxFi24 fxFj24 fxFn25 fxFm25 fxFb25 fxFi25 fxFj25 fxFn26 fxFm26 fxFb26 fxFi26 fxFj26 fxFn27 fxFm27 fxFb27 fxFi27 fxFj27 fxFn28 fxFm28 fxFb28 fxFi28 fxFj28 fxFn29 fxFm29 fxFb29 fxFi29 fxFj29 fxFn30 fxFm30 fxFb30 fxFi30 fxFj30 fxFn31 fxFm31 fxFb31 fxFi31 fxFj31 fxFn32 fxFm32 fxFb32 fxFi32 fxFj32 fxFn33 fxFm33 fxFb33 fxFi33 fxFj33 fxFn34 fxFm34 fxFb34 fxFi34 fxFj34 fxFn35 fxFm35 fxFb35 fxFi35 fxFj35 fxFn36 fxFm36 fxFb36 fxFi36 fxFj36 fxFn37 fxFm37 fxFb37 fxFi37 fxFj37 fxFn38 fxFm38 fxFb38 fxFi38 fxFj38 fxFn39 fxFm39 fxFb39 fxFi39 fxFj39 fxFn40 fxFm40 fxFb40 fxFi40 fxFj40 fxFn41 fxFm41 fxFb41 fxFi41 fxFj41 fxFn42 fxFm42 fxFb42 fxFi42 fxFj42 fxFn43 fxFm43 fxFb43 fxFi43 fxFj43 fxFn44 fxFm44 fxFb44 fxFi44 fxFj44 fxFn45 fxFm45 fxFb45 fxFi45 fxFj45 fxFn46 fxFm46 fxFb46 fxFi46 fxFj46 fxFn47 fxFm47 fxFb47 fxFi47 fxFj47 fxFn48 fxFm48 fxFb48 fxFi48 fxFj48 fxFn49 fxFm49 fxFb49 fxFi49 fxFj49 fxFn50 fxFm50 fxFb50 fxFi50 fxFj50 fxFn51 fxFm51 fxFb51 fxFi51 fxFj51 fxFn52 fxFm52 fxFb52 fxFi52 fxFj52 fxFn53 fxFm53 fxFb53 fxFi53 fxFj53 fxFn54 fxFm54 fxFb54 fxFi54 fxFj54 fxFn55 fxFm55 fxFb55 fxFi55 fxFj55 fxFn56 fxFm56 fxFb56 fxFi56 fxFj56 fxFn57 fxFm57 fxFb57 fxFi57 fxFj57 fxFn58 fxFm58 fxFb58 fxFi58 fxFj58 fxFn59 fxFm59 fxFb59 fxFi59 fxFj59 fxFn60 fxFm60 fxFn61 fxFm61 fxFb61 fxFi61 fxFj61 fxFn62 fxFm62 fxFb62 fxFi62 fxFj62 fxFn63 fxFm63 fxFb63 fxFi63 fxFj63 fxFn64 fxFm64 fxFb64 fxFi64 fxFj64 fxFn65 fxFm65 fxFb65 fxFi65 fxFj65 fxFn66 fxFm66 fxFb66 fxFi66 fxFj66 fxFn67 fxFm67 fxFb67 fxFi67 fxFj67 fxFn68 fxFm68 fxFb68 fxFi68 fxFj68 fxFn69 fxFm69 fxFb69 fxFi69 fxFj69 fxFn70 fxFm70 fxFb70 fxFi70 fxFj70 fxFn71 fxFm71 fxFb71 fxFi71 fxFj71 fxFn72 fxFm72 fxFb72 fxFi72 fxFj72 fxFn73 fxFm73 fxFb73 fxFi73 fxFj73 fxFn74 fxFm74 fxFb74 fxFi74 fxFj74 fxFn75 fxFm75 fxFb75 fxFi75 fxFj75 fxFn76 fxFm76 fxFb76 fxFi76 fxFj76 fxFn77 fxFm77 fxFb77 fxFi77 fxFj77 fxFn78 fxFm78 fxFb78 fxFi78 fxFj78 fxFn79 fxFm79 fxFb79 fxFi79 fxFj79 fxFn80 fxFm80 fxFb80 fxFi80 fxFj80 fxFn81 fxFm81 fxFb81 fxFi81 fxFj81 fxFn82 fxFm82 fxFb82 fxFi82 fxFj82 fxFn83 fxFm83 fxFb83 fxFi83 fxFj83 fxFn84 fxFm84 fxFb84 fxFi84 fxFj84 fxFn85 fxFm85 fxFb85 fxFi85 fxFj85 fxFn86 fxFm86 fxFb86 fxFi86 fxFj86 fxFn87 fxFm87 fxFb87 fxFi87 fxFj87 fxFn88 fxFm88 fxFb88 fxFi88 fxFj88 fxFn89 fxFm89 fxFb89 fxFi89 fxFj89 fxFn90 fxFm90 fxFb90 fxFi90 fxFj90 fxFn91 fxFm91 fxFb91 fxFi91 fxFj91 fxFn92 fxFm92 fxFb92 fxFi92 fxFj92 fxFn93 fxFm93 fxFb93 fxFi93 fxFj93 fxFn94 fxFm94 fxFb94 fxFi94 fxFj94 fxFn95 fxFm95 fxFb95 fxFi95 fxFj95 fxFn96 fxFm96 fxFb96 fxFi96 fxFj96 fxFn97 fxFm97 fxFb97 fxFi97 fxFj97 fxFn98 fxFm98 fxFb98 fxFi98 fxFj98 fxFn99 fxFm99 fxFb99 fxFi99 fxFj99 fxFn100 fxFm100 fxFb100 fxFi100 fxFj100 fxFn101 fxFm101 fxFb101 fxFi101 fxFj101
structure Frm where
  st : Int
  ow : Int
  ct : Int
  deriving DecidableEq
def frmDec : Row → Option Frm
  | [.v (.int .i64 x0), .v (.int .i64 x1), .v (.int .i64 x2)] => some ⟨x0, x1, x2⟩
  | _ => none
def Frm.row (e : Frm) : Row := [.v (.int .i64 e.st), .v (.int .i64 e.ow), .v (.int .i64 e.ct)]
def rFrm : RCod Frm := RCod.plain 3 Frm.row frmDec
  (fun e => rfl) (fun _ => rfl) (fun r e h => by
    unfold frmDec at h
    split at h
    · simp at h; subst h; rfl
    · cases h)
def Frm.val (e : Frm) : Value := .agg #[.int .i64 e.st, .int .i64 e.ow, .int .i64 e.ct]
theorem Frm.eta (e : Frm) : Frm.mk e.st e.ow e.ct = e := rfl
attribute [local simp] Frm.eta
theorem Frm.cold (l : List Frm) : coldR (l.map Frm.row) = l.map Frm.row := by
  induction l with
  | nil => simp [coldR]
  | cons e l ih => simp [coldR, coldC, AI.cold, ih, Frm.row]
theorem Frm.mapM (l : List Frm) : (l.map Frm.row).mapM frmDec = some l := mapM_dec rFrm l
theorem Frm.mapMc (l : List Frm) : l.mapM (frmDec ∘ Frm.row) = some l := mapM_dec' rFrm l
theorem Frm.view (H : Heap) (n : Nat) (e : Frm) : List.map (AI.view H n) e.row = e.row := by cases n <;> simp [Frm.row, AI.view]
theorem Frm.viewc (H : Heap) (n : Nat) : List.map (AI.view H n) ∘ Frm.row = Frm.row := by funext e; exact Frm.view H n e
theorem Frm.hotR (l : List Frm) : AI.hotR (l.map Frm.row) = true := by
  induction l with
  | nil => simp [AI.hotR]
  | cons e l ih => simp [AI.hotR, hotC, hot, ih, Frm.row]
theorem Frm.ren (n : Nat) (th : List Nat) (e : Frm) : List.map (AI.ren n th) e.row = e.row := by simp [Frm.row, AI.ren]
theorem Frm.renc (n : Nat) (th : List Nat) : List.map (AI.ren n th) ∘ Frm.row = Frm.row := by funext e; exact Frm.ren n th e
theorem Frm.low (n : Nat) (e : Frm) : e.row.all (lowA n) = true := by simp [Frm.row, lowA]
theorem Frm.tau (fp : List Nat) (n : Nat) (e : Frm) : List.map (AI.tau fp n) e.row = e.row := by simp [Frm.row, AI.tau]
theorem Frm.tauc (fp : List Nat) (n : Nat) : List.map (AI.tau fp n) ∘ Frm.row = Frm.row := by funext e; exact Frm.tau fp n e
theorem Frm.bare (e : Frm) : e.row.all bareA = true := by simp [Frm.row, bareA]
theorem Frm.flat (l : List Frm) : flat0 (l.map Frm.row) = true := by simp [flat0, Frm.low]
theorem Frm.flat1 (e : Frm) : flat0 [e.row] = true := by simp [flat0, Frm.low]
theorem Frm.exact : Exact rFrm := by
  intro r e h
  simp only [rFrm, RCod.plain] at h ⊢
  unfold frmDec at h
  split at h
  · simp at h; subst h; rfl
  · cases h
theorem Frm.mapMt (k : Nat) (l : List Frm) : (List.take k (l.map Frm.row)).mapM frmDec = some (l.take k) := by rw [← List.map_take]; exact mapM_dec rFrm _
theorem Frm.mapMd (k : Nat) (l : List Frm) : (List.drop k (l.map Frm.row)).mapM frmDec = some (l.drop k) := by rw [← List.map_drop]; exact mapM_dec rFrm _
theorem Frm.coldt (k : Nat) (l : List Frm) : coldR (List.take k (l.map Frm.row)) = List.take k (l.map Frm.row) := by rw [← List.map_take]; exact Frm.cold _
theorem Frm.coldd (k : Nat) (l : List Frm) : coldR (List.drop k (l.map Frm.row)) = List.drop k (l.map Frm.row) := by rw [← List.map_drop]; exact Frm.cold _
theorem Frm.hotRt (k : Nat) (l : List Frm) : AI.hotR (List.take k (l.map Frm.row)) = true := by rw [← List.map_take]; exact Frm.hotR _
theorem Frm.hotRd (k : Nat) (l : List Frm) : AI.hotR (List.drop k (l.map Frm.row)) = true := by rw [← List.map_drop]; exact Frm.hotR _
attribute [local simp] Frm.hotRt Frm.hotRd
attribute [local simp] Frm.tau Frm.tauc Frm.bare Frm.flat Frm.flat1 Frm.mapMt Frm.mapMd Frm.coldt Frm.coldd
attribute [local simp] Frm.cold Frm.mapM Frm.mapMc Frm.view Frm.viewc Frm.hotR Frm.ren Frm.renc Frm.low
def Frm.bad (f : Frm) : Bool := decide (f.st < 0) || decide (3 < f.st) || decide (f.ow < 0) || decide (1048576 < f.ow) || decide (f.ct < 0) || decide (1048576 < f.ct)
def Frm.odd (f : Frm) : Bool := (decide (f.st = 0) && (!decide (f.ow = 0) || !decide (f.ct = 0))) || (!decide (f.st = 0) && decide (f.ct = 0)) || (decide (f.st = 1) && !decide (f.ct = 1))
def Frm.chk (f : Frm) : Int := if f.bad = true then 1 else if f.odd = true then 3 else 0
def frAll : List Frm → Int
  | [] => 0
  | f :: r => if f.chk = 0 then frAll r else f.chk
def frCheck (l : List Frm) : Int := if 64 < l.length then 2 else frAll l
theorem frCheck_pure : PureOk Try.prog 53 (argM (cSl rFrm) fun l => finM (some (.v (.int .i64 (frCheck l))))) := by
  refine pure1 Try.func53 rfl ?_
  rintro l r hr
  simp only [Option.some.injEq] at hr
  subst hr
  refine body_gen noOrc_ok fxMix (by kernel_rfl) (by simp [Try.ntmps53]) ?_
  intro C cP cI cN cD cF cA
  replace cI : C.inl = fun _ => false := cI
  replace cD : C.dyn = fun _ => [] := cD
  clear cP cN cF cA
  unfold frCheck
  by_cases h1 : 64 < l.length
  · have h1' := eq_true (show (64 : Int) < l.length by omega)
    simp [Try.ntmps53, Try.results53, cSl, cI, cD, rFrm, h1, h1']
    done
  have h1' : ¬ (64 : Int) < l.length := by omega
  simp [Try.ntmps53, Try.results53, cSl, cI, cD, rFrm, h1, h1']
  refine loop_for l.length (fun k (_ : Unit) => ([(8, .fsl false 3 (l.map Frm.row)), (9, .v (.int .i64 l.length)), (10, .v (.int .i64 k))], [])) (fun k _ => frAll (l.drop k) = frAll l) () (by omega) (by simp) (by simp) ?_ ?_
  · intro k _ hk hall hw
    rw [List.drop_eq_getElem_cons hk] at hall
    simp only [frAll] at hall
    cases hb : (l[k]).bad with
    | true =>
      have hc : (l[k]).chk = 1 := by unfold Frm.chk; rw [if_pos hb]
      rw [hc] at hall
      simp only [show ¬ (1 : Int) = 0 by decide, if_false] at hall
      by_cases s0 : (l[k]).st < 0
      · simp [Try.ntmps53, Try.results53, cSl, cI, cD, Frm.row, frmDec, rFrm, hk, hw, s0, ← hall]
        done
      by_cases s1 : 3 < (l[k]).st
      · simp [Try.ntmps53, Try.results53, cSl, cI, cD, Frm.row, frmDec, rFrm, hk, hw, s0, s1, ← hall]
        done
      by_cases o0 : (l[k]).ow < 0
      · simp [Try.ntmps53, Try.results53, cSl, cI, cD, Frm.row, frmDec, rFrm, hk, hw, s0, s1, o0, ← hall]
        done
      by_cases o1 : 1048576 < (l[k]).ow
      · simp [Try.ntmps53, Try.results53, cSl, cI, cD, Frm.row, frmDec, rFrm, hk, hw, s0, s1, o0, o1, ← hall]
        done
      by_cases c0 : (l[k]).ct < 0
      · simp [Try.ntmps53, Try.results53, cSl, cI, cD, Frm.row, frmDec, rFrm, hk, hw, s0, s1, o0, o1, c0, ← hall]
        done
      by_cases c1 : 1048576 < (l[k]).ct
      · simp [Try.ntmps53, Try.results53, cSl, cI, cD, Frm.row, frmDec, rFrm, hk, hw, s0, s1, o0, o1, c0, c1, ← hall]
        done
      · simp [Frm.bad, s0, s1, o0, o1, c0, c1] at hb
    | false =>
      simp only [Frm.bad, Bool.or_eq_false_iff, decide_eq_false_iff_not] at hb
      obtain ⟨⟨⟨⟨⟨s0, s1⟩, o0⟩, o1⟩, c0⟩, c1⟩ := hb
      cases ho : (l[k]).odd with
      | true =>
        have hc : (l[k]).chk = 3 := by unfold Frm.chk; rw [if_neg (by simp [Frm.bad, s0, s1, o0, o1, c0, c1]), if_pos ho]
        rw [hc] at hall
        simp only [show ¬ (3 : Int) = 0 by decide, if_false] at hall
        by_cases z : (l[k]).st = 0
        · by_cases y : (l[k]).ow = 0
          · by_cases x : (l[k]).ct = 0
            · simp [Frm.odd, z, y, x] at ho
            · simp [Try.ntmps53, Try.results53, cSl, cI, cD, Frm.row, frmDec, rFrm, hk, hw, s0, s1, o0, o1, c0, c1, z, y, x, ← hall]
              done
          · simp [Try.ntmps53, Try.results53, cSl, cI, cD, Frm.row, frmDec, rFrm, hk, hw, s0, s1, o0, o1, c0, c1, z, y, ← hall]
            done
        · by_cases x : (l[k]).ct = 0
          · simp [Try.ntmps53, Try.results53, cSl, cI, cD, Frm.row, frmDec, rFrm, hk, hw, s0, s1, o0, o1, c0, c1, z, x, ← hall]
            done
          · by_cases v : (l[k]).st = 1
            · by_cases w : (l[k]).ct = 1
              · simp [Frm.odd, z, x, v, w] at ho
              · simp [Try.ntmps53, Try.results53, cSl, cI, cD, Frm.row, frmDec, rFrm, hk, hw, s0, s1, o0, o1, c0, c1, z, x, v, w, ← hall]
                done
            · simp [Frm.odd, z, x, v] at ho
      | false =>
        have hc : (l[k]).chk = 0 := by unfold Frm.chk; rw [if_neg (by simp [Frm.bad, s0, s1, o0, o1, c0, c1]), if_neg (by simp [ho])]
        rw [hc] at hall
        simp only [if_true] at hall
        by_cases z : (l[k]).st = 0
        · have y : (l[k]).ow = 0 := by simp [Frm.odd, z] at ho; exact ho.1
          have x : (l[k]).ct = 0 := by simp [Frm.odd, z] at ho; exact ho.2
          simp [Try.ntmps53, Try.results53, cSl, cI, cD, Frm.row, frmDec, rFrm, hk, hw, s0, s1, o0, o1, c0, c1, z, y, x, ← hall]
          done
        · have x : ¬ (l[k]).ct = 0 := by intro x; simp [Frm.odd, z, x] at ho
          by_cases v : (l[k]).st = 1
          · have w : (l[k]).ct = 1 := by simp [Frm.odd, z, x, v] at ho; exact ho
            simp [Try.ntmps53, Try.results53, cSl, cI, cD, Frm.row, frmDec, rFrm, hk, hw, s0, s1, o0, o1, c0, c1, z, x, v, w, ← hall]
            done
          · simp [Try.ntmps53, Try.results53, cSl, cI, cD, Frm.row, frmDec, rFrm, hk, hw, s0, s1, o0, o1, c0, c1, z, x, v, ← hall]
            done
  · intro _ hall
    simp [frAll] at hall
    simp [Try.ntmps53, Try.results53, cSl, cI, cD, ← hall]
    done
/-- frame.at -/
def frAt (l : List Frm) (n : Int) : Int := if frCheck l = 0 then (if n < 0 ∨ (l.length : Int) ≤ n then 4 else 0) else frCheck l
theorem frAt_pure : PureOk Try.prog 68 (argM (cSl rFrm) fun l => argM (cInt .i64) fun n => finM (some (.v (.int .i64 (frAt l n))))) := by
  refine pure2 Try.func68 rfl ?_
  rintro l n r hr
  simp only [Option.some.injEq] at hr
  subst hr
  refine body_gen (noOrc_ok.withP frCheck_pure) fxMix (by kernel_rfl) (by simp [Try.ntmps68]) ?_
  intro C cP cI cN cD cF cA
  have cp0 := orcP frCheck_pure (C := C) (by rw [cP]; rfl)
  replace cI : C.inl = fun _ => false := cI
  replace cD : C.dyn = fun _ => [] := cD
  clear cP cN cF cA
  unfold frAt
  by_cases h1 : frCheck l = 0
  · by_cases h2 : n < 0
    · simp [Try.ntmps68, Try.results68, cSl, cp0, cI, cD, rFrm, h1, h2]
    · by_cases h3 : (l.length : Int) ≤ n
      · simp [Try.ntmps68, Try.results68, cSl, cp0, cI, cD, rFrm, h1, h2, h3]
      · simp [Try.ntmps68, Try.results68, cSl, cp0, cI, cD, rFrm, h1, h2, h3]
  · simp [Try.ntmps68, Try.results68, cSl, cp0, cI, cD, rFrm, h1]
theorem clFr : InlOk Try.prog 90 (cloneI 3) := by
  refine inl_soft Try.func90 rfl ?_
  intro args H r H' hr
  rcases cloneI_some hr with ⟨o, rows, rfl, hl, hc⟩ | ⟨id, st, k, kc, rows, rfl, hob, hle, hl, hc⟩ | ⟨rfl, rfl, rfl⟩
  · refine ⟨by simp [Try.ntmps90], wpA_sound noOrc_ok fxMix _ _ _ _ (by kernel_rfl) ?_⟩
    rcases hc with ⟨rfl, rfl, rfl⟩ | ⟨h0, rfl, rfl⟩
    · simp [Try.ntmps90, Try.results90, noOrc]
    · simp [Try.ntmps90, Try.results90, h0, hl, noOrc]
  · refine ⟨by simp [Try.ntmps90], wpA_sound noOrc_ok fxMix _ _ _ _ (by kernel_rfl) ?_⟩
    have hob' := obj_get hob
    have e1 : min k (rows.length - st) = k := by omega
    have e2 : st + k ≤ rows.length := hle
    have e3 : st ≤ rows.length := by omega
    rcases hc with ⟨rfl, rfl, rfl⟩ | ⟨h0, rfl, rfl⟩
    · simp [Try.ntmps90, Try.results90, noOrc, hob', e2, e3]
    · simp [Try.ntmps90, Try.results90, hl, noOrc, hob', e1, e2, h0]
  · refine ⟨by simp [Try.ntmps90], wpA_sound noOrc_ok fxMix _ _ _ _ (by kernel_rfl) ?_⟩
    simp [Try.ntmps90, Try.results90, noOrc]
theorem frWith_pure : PureOk Try.prog 69 (argM (cSl rFrm) fun l => argM (cInt .i64) fun n => argM (cAgg rFrm) fun f => finM (if (0 ≤ n ∧ n < l.length) ∧ l.length ≤ 64 then some (.fsl true 3 ((l.set n.toNat f).map Frm.row)) else none)) := by
  refine pure3 Try.func69 rfl ?_
  rintro l n f r hr
  by_cases hc : (0 ≤ n ∧ n < l.length) ∧ l.length ≤ 64
  case neg => rw [if_neg hc] at hr; cases hr
  rw [if_pos hc] at hr
  simp only [Option.some.injEq] at hr
  subst hr
  refine body_gen (noOrc_ok.withI clFr) fxMix (by kernel_rfl) (by simp [Try.ntmps69]) ?_
  intro C cP cI cN cD cF cA
  have cn0 := orcI clFr (C := C) (by rw [cN]; rfl)
  replace cI := fun g => congrFun cI g
  simp only [Orc.withP, Orc.withI, Orc.withF, Orc.withD, Orc.withA, noOrc] at cI
  replace cD : C.dyn = fun _ => [] := cD
  clear cP cN cF cA
  obtain ⟨⟨h1, h2⟩, h3⟩ := hc
  obtain ⟨k, rfl⟩ := Int.eq_ofNat_of_zero_le h1
  have hk : k < l.length := by omega
  have hne : ¬ l = [] := by intro h; subst h; simp at hk
  have hl : l.length ≤ 4294967296 := by omega
  simp [Try.ntmps69, Try.results69, cSl, cn0, cI, cD, rFrm, Frm.row, frmDec, cloneI, hne, hl, hk]
theorem frAll_len {l : List Frm} (h : frCheck l = 0) : l.length ≤ 64 := by
  unfold frCheck at h
  split at h
  · cases h
  · omega
theorem frAt_ok {l : List Frm} {n : Int} (h : frAt l n = 0) : frCheck l = 0 ∧ 0 ≤ n ∧ n < l.length ∧ l.length ≤ 64 := by
  unfold frAt at h
  split at h
  · rename_i h1
    split at h
    · cases h
    · exact ⟨h1, by omega, by omega, frAll_len h1⟩
  · rename_i h1; exact absurd h h1
def frGet (l : List Frm) (n : Int) : Frm := l[n.toNat]?.getD ⟨0, 0, 0⟩
def frE : Except Int (List Frm) → AVal
  | .ok l => .tup [.fsl true 3 (l.map Frm.row), .v (.int .i64 0)]
  | .error e => .v (.tuple #[.slice none 0 0, .int .i64 e])
def frTake (l : List Frm) (n st ow : Int) : Except Int (List Frm) :=
  if frAt l n = 0 then
    if ((st < 1 ∨ 3 < st) ∨ ow < 0) ∨ 1048576 < ow then .error 1
    else if (frGet l n).st ≠ 0 then .error 5
    else .ok (l.set n.toNat ⟨st, ow, 1⟩)
  else .error (frAt l n)
theorem frTake_pure : PureOk Try.prog 54 (argM (cSl rFrm) fun l => argM (cInt .i64) fun n => argM (cInt .i64) fun st => argM (cInt .i64) fun ow => finM (some (frE (frTake l n st ow)))) := by
  refine pure4 Try.func54 rfl ?_
  rintro l n st ow r hr
  simp only [Option.some.injEq] at hr
  subst hr
  refine body_gen ((noOrc_ok.withP frAt_pure).withP frWith_pure) fxMix (by kernel_rfl) (by simp [Try.ntmps54]) ?_
  intro C cP cI cN cD cF cA
  have cp0 := orcP frAt_pure (C := C) (by rw [cP]; rfl)
  have cp1 := orcP frWith_pure (C := C) (by rw [cP]; rfl)
  replace cI : C.inl = fun _ => false := cI
  replace cD : C.dyn = fun _ => [] := cD
  clear cP cN cF cA
  unfold frTake
  by_cases h0 : frAt l n = 0
  · obtain ⟨h1, h2, h3, h4⟩ := frAt_ok h0
    have hc1 : ((0 ≤ n ∧ n < l.length) ∧ l.length ≤ 64) = True := eq_true ⟨⟨h2, h3⟩, h4⟩
    have h5 : n.toNat < l.length := by omega
    have hg : frGet l n = l[n.toNat] := by simp [frGet, h5]
    rw [hg]
    by_cases a : st < 1
    · simp [Try.ntmps54, Try.results54, cSl, cp0, cp1, cI, cD, rFrm, frE, h0, a]
      done
    by_cases b : 3 < st
    · simp [Try.ntmps54, Try.results54, cSl, cp0, cp1, cI, cD, rFrm, frE, h0, a, b]
      done
    by_cases c : ow < 0
    · simp [Try.ntmps54, Try.results54, cSl, cp0, cp1, cI, cD, rFrm, frE, h0, a, b, c]
      done
    by_cases d : 1048576 < ow
    · simp [Try.ntmps54, Try.results54, cSl, cp0, cp1, cI, cD, rFrm, frE, h0, a, b, c, d]
      done
    by_cases e : (l[n.toNat]).st = 0
    · simp [Try.ntmps54, Try.results54, cSl, cp0, cp1, cI, cD, rFrm, Frm.row, frmDec, frE, h0, a, b, c, d, e, h2, h3, h4, h5, hc1]
      done
    · simp [Try.ntmps54, Try.results54, cSl, cp0, cp1, cI, cD, rFrm, Frm.row, frmDec, frE, h0, a, b, c, d, e, h2, h3, h4, h5, hc1]
      done
  · simp [Try.ntmps54, Try.results54, cSl, cp0, cp1, cI, cD, rFrm, frE, h0]
theorem frames_pure : PureOk Try.prog 32 ( finM (some (.v (.bool true)))) := by
  refine pure0 Try.func32 rfl ?_
  rintro  r hr
  simp only [Option.some.injEq] at hr
  subst hr
  refine body_gen (noOrc_ok.withP frTake_pure) fxMix (by kernel_rfl) (by simp [Try.ntmps32]) ?_
  intro C cP cI cN cD cF cA
  have cp0 := orcP frTake_pure (C := C) (by rw [cP]; rfl)
  replace cI : C.inl = fun _ => false := cI
  replace cD : C.dyn = fun _ => [] := cD
  clear cP cN cF cA
  have h1 : frTake [⟨0, 0, 0⟩] 0 2 3 = .ok [⟨2, 3, 1⟩] := by rfl
  simp [Try.ntmps32, Try.results32, cSl, cp0, cI, cD, rFrm, Frm.row, frmDec, h1, frE]
end Go.Proofs.Ytdhkhnegnlmgiaa
