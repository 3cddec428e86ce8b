/- Package oom: Check, need, ordered. -/
import Derived.Test.YtdhkhnegnlmgiaaCmA
import Derived.Test.YtdhkhnegnlmgiaaSo
import Derived.Test.YtdhkhnegnlmgiaaAiZj
namespace Go.Proofs.Ytdhkhnegnlmgiaa
open Go.AI Go.Sort
set_option maxHeartbeats 2000000
set_option maxRecDepth 100000
set_option linter.unusedSimpArgs false
set_option linter.unusedVariables false
attribute [local simp] wpA wpX RunA RunD runF foot footP footB idsA bare apart runL step1 gsel_f gsel_t gsel_s res_same res_and1 res_and2 res_and3 res_and4 res_and5 res_and6 res_false res_true res_v res_ptr res_fptr res_osl res_xsl soft aAppendZ aCap ovlI ovlJ res_fsl res_esl res_agg res_tup res_fn res_junk res_anyb aPick hk imp_left iteV dstOk guardOk astep astepE AI.ev AI.look AI.put envOf aBox cellsOf allOne allOneA oneA Value.oneCell' Value.cells newObj' aFieldAddr aLoad obj readAt thenA blockA condA retA resA tupA view hot hotC hotR depthV cAgg cInt cBool mkAgg allV aAlloc aBuild fillA writeAt aStore isAggA aField idx aIndexAddr aIndex bnd aSlice aExtract aLen aBuiltin aCall isStatic eqAgg eqTy eqC ev_add ev_sub ev_mul ev_quo ev_rem ev_and ev_or ev_xor ev_andNot ev_shl ev_shr ev_eql ev_neq ev_lss ev_leq ev_gtr ev_geq ev_agg w64 wu32 wu8 ev_not ev_neg Cod.plain RCod.plain argM finM cold coldC coldR goInt intDec boolDec aggDec Weaker heapW lowA lowC Again slDec undef aBuildSlice setRows aAppend rowsOf aMakeSlice aClear aCopy softer_self softer_nil valsOf ev_min2 ev_max2 hotR_set hotR_append take_map_set irow_cold irow_mapM irow_mapMc irow_view irow_viewc irow_hotR irow_ren irow_renc irow_low WeakT heapT thOf ren renC AgainT NextF NextT fnDec cFn rNil selfLt natLt0 natLt1 getLastMap frame0 frame1 own0 own1 argG finG tau tauI tauO tauC bareA bareC bareH irow_tau irow_tauc irow_bare irow_flat irow_bareR ownA_nil ownT_nil ownA_c ownT_c ownA_s ownT_s takeMapLen footC plainA noId noIdC cloneF frame0F frame1F insertF replaceI replaceF cellDec rCell fpDec cFp rTwo deleteF allV_oA oneA_oA res_oA RunR RunE runFT footAt hotR_cat tmodN fxSz2 fxBy2 fxAg2 fxZe2 fxSl2 fxAr2 fxPl2 fxSz3 fxBy3 fxAg3 fxZe3 fxSl3 fxAr3 fxPl3 fxSz4 fxBy4 fxAg4 fxZe4 fxSl4 fxAr4 fxPl4 fxSz5 fxBy5 fxAg5 fxZe5 fxSl5 fxAr5 fxPl5 fxSz9 fxBy9 fxAg9 fxZe9 fxSl9 fxAr9 fxPl9 fxSz12 fxBy12 fxAg12 fxZe12 fxSl12 fxAr12 fxPl12 fxSz13 fxBy13 fxAg13 fxZe13 fxSl13 fxAr13 fxFi13x0 fxFi13x1 fxPl13 fxSz21 fxBy21 fxAg21 fxZe21 fxSl21 fxAr21 fxPl21 fxSz22 fxBy22 fxAg22 fxZe22 fxSl22 fxAr22 fxPl22 fxSz23 fxBy23 fxAg23 fxZe23 fxSl23 fxAr23 fxFi23x0 fxFi23x1 fxPl23 fxSz24 fxBy24 fxAg24 fxZe24 fxSl24 fxAr24 fxFi24x0 fxFi24x1 fxPl24 fxSz26 fxBy26 fxAg26 fxZe26 fxSl26 fxAr26 fxPl26 fxSz28 fxBy28 fxAg28 fxZe28 fxSl28 fxAr28 fxPl28 fxSz29 fxBy29 fxAg29 fxZe29 fxSl29 fxAr29 fxFi29x0 fxFi29x1 fxFi29x2 fxFi29x3 fxFi29x4 fxPl29 fxSz30 fxBy30 fxAg30 fxZe30 fxSl30 fxAr30 fxFi30x0 fxFi30x1 fxFi30x2 fxFi30x3 fxFi30x4 fxPl30 fxSz48 fxBy48 fxAg48 fxZe48 fxSl48 fxAr48 fxPl48 fxSz49 fxBy49 fxAg49 fxZe49 fxSl49 fxAr49 fxPl49 fxSz53 fxBy53 fxAg53 fxZe53 fxSl53 fxAr53 fxFi53x0 fxFi53x1 fxFi53x2 fxFi53x3 fxPl53 fxSz54 fxBy54 fxAg54 fxZe54 fxSl54 fxAr54 fxFi54x0 fxFi54x1 fxFi54x2 fxFi54x3 fxPl54 fxSz59 fxBy59 fxAg59 fxZe59 fxSl59 fxAr59 fxPl59 fxSz63 fxBy63 fxAg63 fxZe63 fxSl63 fxAr63 fxPl63 fxSz68 fxBy68 fxAg68 fxZe68 fxSl68 fxAr68 fxPl68 fxSz75 fxBy75 fxAg75 fxZe75 fxSl75 fxAr75 fxPl75 fxSz90 fxBy90 fxAg90 fxZe90 fxSl90 fxAr90 fxFi90x0 fxFi90x1 fxFi90x2 fxPl90 fxSz91 fxBy91 fxAg91 fxZe91 fxSl91 fxAr91 fxFi91x0 fxFi91x1 fxFi91x2 fxPl91 fxSz96 fxBy96 fxAg96 fxZe96 fxSl96 fxAr96 fxPl96 fxSz108 fxBy108 fxAg108 fxZe108 fxSl108 fxAr108 fxPl108 fxSz115 fxBy115 fxAg115 fxZe115 fxSl115 fxAr115 fxPl115 fxSz117 fxBy117 fxAg117 fxZe117 fxSl117 fxAr117 fxPl117 fxSz124 fxBy124 fxAg124 fxZe124 fxSl124 fxAr124 fxPl124 fxSz128 fxBy128 fxAg128 fxZe128 fxSl128 fxAr128 fxPl128 fxSz133 fxBy133 fxAg133 fxZe133 fxSl133 fxAr133 fxPl133 fxSz140 fxBy140 fxAg140 fxZe140 fxSl140 fxAr140 fxPl140 fxSz141 fxBy141 fxAg141 fxZe141 fxSl141 fxAr141 fxFi141x0 fxPl141 fxSz147 fxBy147 fxAg147 fxZe147 fxSl147 fxAr147 fxPl147 fxSz152 fxBy152 fxAg152 fxZe152 fxSl152 fxAr152 fxPl152 fxEq28 fxEq30 fxEq54 fxEq91 fxCv2x2 fxCv2x3 fxCv2x5 fxCv2x12 fxCv2x21 fxCv2x26 fxCv2x96 fxCv2x108 fxCv2x115 fxCv2x117 fxCv2x124 fxCv3x2 fxCv3x3 fxCv3x5 fxCv3x12 fxCv3x21 fxCv3x26 fxCv3x96 fxCv3x108 fxCv3x115 fxCv3x117 fxCv3x124 fxCv5x2 fxCv5x3 fxCv5x5 fxCv5x12 fxCv5x21 fxCv5x26 fxCv5x96 fxCv5x108 fxCv5x115 fxCv5x117 fxCv5x124 fxCv12x2 fxCv12x3 fxCv12x5 fxCv12x12 fxCv12x21 fxCv12x26 fxCv12x96 fxCv12x108 fxCv12x115 fxCv12x117 fxCv12x124 fxCv21x2 fxCv21x3 fxCv21x5 fxCv21x12 fxCv21x21 fxCv21x26 fxCv21x96 fxCv21x108 fxCv21x115 fxCv21x117 fxCv21x124 fxCv26x2 fxCv26x3 fxCv26x5 fxCv26x12 fxCv26x21 fxCv26x26 fxCv26x96 fxCv26x108 fxCv26x115 fxCv26x117 fxCv26x124 fxCv96x2 fxCv96x3 fxCv96x5 fxCv96x12 fxCv96x21 fxCv96x26 fxCv96x96 fxCv96x108 fxCv96x115 fxCv96x117 fxCv96x124 fxCv108x2 fxCv108x3 fxCv108x5 fxCv108x12 fxCv108x21 fxCv108x26 fxCv108x96 fxCv108x108 fxCv108x115 fxCv108x117 fxCv108x124 fxCv115x2 fxCv115x3 fxCv115x5 fxCv115x12 fxCv115x21 fxCv115x26 fxCv115x96 fxCv115x108 fxCv115x115 fxCv115x117 fxCv115x124 fxCv117x2 fxCv117x3 fxCv117x5 fxCv117x12 fxCv117x21 fxCv117x26 fxCv117x96 fxCv117x108 fxCv117x115 fxCv117x117 fxCv117x124 fxCv124x2 fxCv124x3 fxCv124x5 fxCv124x12 fxCv124x21 fxCv124x26 fxCv124x96 fxCv124x108 fxCv124x115 fxCv124x117 fxCv124x124 fxEb4 fxNb4 fxLt9 fxLn22 fxNe22 fxNn22 fxOe22 fxOn22 fxXe22 fxXn22 fxLn48 fxNe48 fxNn48 fxOe48 fxOn48 fxXe48 fxXn48 fxLn49 fxNe49 fxNn49 fxOe49 fxOn49 fxXe49 fxXn49 fxLn59 fxNe59 fxNn59 fxOe59 fxOn59 fxXe59 fxXn59 fxLn63 fxNe63 fxNn63 fxOe63 fxOn63 fxXe63 fxXn63 fxLn75 fxNe75 fxNn75 fxOe75 fxOn75 fxXe75 fxXn75 fxFn3 fxFm3 fxFb3 fxFi3 fxFj3 fxFn4 fxFm4 fxFb4 fxFi4 fxFj4 fxFn5 fxFm5 fxFb5 fxFi5 fxFj5 fxFn6 fxFm6 fxFb6 fxFi6 fxFj6 fxFn7 fxFm7 fxFb7 fxFi7 fxFj7 fxFn8 fxFm8 fxFb8 fxFi8 fxFj8 fxFn9 fxFm9 fxFb9 fxFi9 fxFj9 fxFn10 fxFm10 fxFb10 fxFi10 fxFj10 fxFn11 fxFm11 fxFb11 fxFi11 fxFj11 fxFn12 fxFm12 fxFb12 fxFi12 fxFj12 fxFn13 fxFm13 fxFb13 fxFi13 fxFj13 fxFn14 fxFm14 fxFb14 fxFi14 fxFj14 fxFn15 fxFm15 fxFb15 fxFi15 fxFj15 fxFn16 fxFm16 fxFb16 fxFi16 fxFj16 fxFn17 fxFm17 fxFb17 fxFi17 fxFj17 fxFn18 fxFm18 fxFb18 fxFi18 fxFj18 fxFn19 fxFm19 fxFb19 fxFi19 fxFj19 fxFn20 fxFm20 fxFb20 fxFi20 fxFj20 fxFn21 fxFm21 fxFb21 fxFi21 fxFj21 fxFn22 fxFm22 fxFb22 fxFi22 fxFj22 fxFn23 fxFm23 fxFb23 fxFi23 fxFj23 fxFn24 fxFm24 fxFb24 fxFi24 fxFj24 fxFn25 fxFm25 fxFb25 fxFi25 fxFj25 fxFn26 fxFm26 fxFb26 fxFi26 fxFj26 fxFn27 fxFm27 fxFb27 fxFi27 fxFj27 fxFn28 fxFm28 fxFb28 fxFi28 fxFj28 fxFn29 fxFm29 fxFb29 fxFi29 fxFj29 fxFn30 fxFm30 fxFb30 fxFi30 fxFj30 fxFn31 fxFm31 fxFb31 fxFi31 fxFj31 fxFn32 fxFm32 fxFb32 fxFi32 fxFj32 fxFn33 fxFm33 fxFb33 fxFi33 fxFj33 fxFn34 fxFm34 fxFb34 fxFi34 fxFj34 fxFn35 fxFm35 fxFb35 fxFi35 fxFj35 fxFn36 fxFm36 fxFb36 fxFi36 fxFj36 fxFn37 fxFm37 fxFb37 fxFi37 fxFj37 fxFn38 fxFm38 fxFb38 fxFi38 fxFj38 fxFn39 fxFm39 fxFb39 fxFi39 fxFj39 fxFn40 fxFm40 fxFb40 fxFi40 fxFj40 fxFn41 fxFm41 fxFb41 fxFi41 fxFj41 fxFn42 fxFm42 fxFb42 fxFi42 fxFj42 fxFn43 fxFm43 fxFb43 fxFi43 fxFj43 fxFn44 fxFm44 fxFb44 fxFi44 fxFj44 fxFn45 fxFm45 fxFb45 fxFi45 fxFj45 fxFn46 fxFm46 fxFb46 fxFi46 fxFj46 fxFn47 fxFm47 fxFb47 fxFi47 fxFj47 fxFn48 fxFm48 fxFb48 fxFi48 fxFj48 fxFn49 fxFm49 fxFb49 fxFi49 fxFj49 fxFn50 fxFm50 fxFb50 fxFi50 fxFj50 fxFn51 fxFm51 fxFb51 fxFi51 fxFj51 fxFn52 fxFm52 fxFb52 fxFi52 fxFj52 fxFn53 fxFm53 fxFb53 fxFi53 fxFj53 fxFn54 fxFm54 fxFb54 fxFi54 fxFj54 fxFn55 fxFm55 fxFb55 fxFi55 fxFj55 fxFn56 fxFm56 fxFb56 fxFi56 fxFj56 fxFn57 fxFm57 fxFb57 fxFi57 fxFj57 fxFn58 fxFm58 fxFb58 fxFi58 fxFj58 fxFn59 fxFm59 fxFb59 fxFi59 fxFj59 fxFn60 fxFm60 fxFn61 fxFm61 fxFb61 fxFi61 fxFj61 fxFn62 fxFm62 fxFb62 fxFi62 fxFj62 fxFn63 fxFm63 fxFb63 fxFi63 fxFj63 fxFn64 fxFm64 fxFb64 fxFi64 fxFj64 fxFn65 fxFm65 fxFb65 fxFi65 fxFj65 fxFn66 fxFm66 fxFb66 fxFi66 fxFj66 fxFn67 fxFm67 fxFb67 fxFi67 fxFj67 fxFn68 fxFm68 fxFb68 fxFi68 fxFj68 fxFn69 fxFm69 fxFb69 fxFi69 fxFj69 fxFn70 fxFm70 fxFb70 fxFi70 fxFj70 fxFn71 fxFm71 fxFb71 fxFi71 fxFj71 fxFn72 fxFm72 fxFb72 fxFi72 fxFj72 fxFn73 fxFm73 fxFb73 fxFi73 fxFj73 fxFn74 fxFm74 fxFb74 fxFi74 fxFj74 fxFn75 fxFm75 fxFb75 fxFi75 fxFj75 fxFn76 fxFm76 fxFb76 fxFi76 fxFj76 fxFn77 fxFm77 fxFb77 fxFi77 fxFj77 fxFn78 fxFm78 fxFb78 fxFi78 fxFj78 fxFn79 fxFm79 fxFb79 fxFi79 fxFj79 fxFn80 fxFm80 fxFb80 fxFi80 fxFj80 fxFn81 fxFm81 fxFb81 fxFi81 fxFj81 fxFn82 fxFm82 fxFb82 fxFi82 fxFj82 fxFn83 fxFm83 fxFb83 fxFi83 fxFj83 fxFn84 fxFm84 fxFb84 fxFi84 fxFj84 fxFn85 fxFm85 fxFb85 fxFi85 fxFj85 fxFn86 fxFm86 fxFb86 fxFi86 fxFj86 fxFn87 fxFm87 fxFb87 fxFi87 fxFj87 fxFn88 fxFm88 fxFb88 fxFi88 fxFj88 fxFn89 fxFm89 fxFb89 fxFi89 fxFj89 fxFn90 fxFm90 fxFb90 fxFi90 fxFj90 fxFn91 fxFm91 fxFb91 fxFi91 fxFj91 fxFn92 fxFm92 fxFb92 fxFi92 fxFj92 fxFn93 fxFm93 fxFb93 fxFi93 fxFj93 fxFn94 fxFm94 fxFb94 fxFi94 fxFj94 fxFn95 fxFm95 fxFb95 fxFi95 fxFj95 fxFn96 fxFm96 fxFb96 fxFi96 fxFj96 fxFn97 fxFm97 fxFb97 fxFi97 fxFj97 fxFn98 fxFm98 fxFb98 fxFi98 fxFj98 fxFn99 fxFm99 fxFb99 fxFi99 fxFj99 fxFn100 fxFm100 fxFb100 fxFi100 fxFj100 fxFn101 fxFm101 fxFb101 fxFi101 fxFj101
structure Tk where
  id : Int
  pages : Int
  score : Int
  kept : Bool
  deriving DecidableEq
def tkDec : Row → Option Tk
  | [.v (.int .i64 x0), .v (.int .i64 x1), .v (.int .i64 x2), .v (.bool x3)] => some ⟨x0, x1, x2, x3⟩
  | _ => none
def Tk.row (e : Tk) : Row := [.v (.int .i64 e.id), .v (.int .i64 e.pages), .v (.int .i64 e.score), .v (.bool e.kept)]
def rTk : RCod Tk := RCod.plain 4 Tk.row tkDec
  (fun e => rfl) (fun _ => rfl) (fun r e h => by
    unfold tkDec at h
    split at h
    · simp at h; subst h; rfl
    · cases h)
def Tk.val (e : Tk) : Value := .agg #[.int .i64 e.id, .int .i64 e.pages, .int .i64 e.score, .bool e.kept]
theorem Tk.eta (e : Tk) : Tk.mk e.id e.pages e.score e.kept = e := rfl
attribute [local simp] Tk.eta
theorem Tk.cold (l : List Tk) : coldR (l.map Tk.row) = l.map Tk.row := by
  induction l with
  | nil => simp [coldR]
  | cons e l ih => simp [coldR, coldC, AI.cold, ih, Tk.row]
theorem Tk.mapM (l : List Tk) : (l.map Tk.row).mapM tkDec = some l := mapM_dec rTk l
theorem Tk.mapMc (l : List Tk) : l.mapM (tkDec ∘ Tk.row) = some l := mapM_dec' rTk l
theorem Tk.view (H : Heap) (n : Nat) (e : Tk) : List.map (AI.view H n) e.row = e.row := by cases n <;> simp [Tk.row, AI.view]
theorem Tk.viewc (H : Heap) (n : Nat) : List.map (AI.view H n) ∘ Tk.row = Tk.row := by funext e; exact Tk.view H n e
theorem Tk.hotR (l : List Tk) : AI.hotR (l.map Tk.row) = true := by
  induction l with
  | nil => simp [AI.hotR]
  | cons e l ih => simp [AI.hotR, hotC, hot, ih, Tk.row]
theorem Tk.ren (n : Nat) (th : List Nat) (e : Tk) : List.map (AI.ren n th) e.row = e.row := by simp [Tk.row, AI.ren]
theorem Tk.renc (n : Nat) (th : List Nat) : List.map (AI.ren n th) ∘ Tk.row = Tk.row := by funext e; exact Tk.ren n th e
theorem Tk.low (n : Nat) (e : Tk) : e.row.all (lowA n) = true := by simp [Tk.row, lowA]
theorem Tk.tau (fp : List Nat) (n : Nat) (e : Tk) : List.map (AI.tau fp n) e.row = e.row := by simp [Tk.row, AI.tau]
theorem Tk.tauc (fp : List Nat) (n : Nat) : List.map (AI.tau fp n) ∘ Tk.row = Tk.row := by funext e; exact Tk.tau fp n e
theorem Tk.bare (e : Tk) : e.row.all bareA = true := by simp [Tk.row, bareA]
theorem Tk.flat (l : List Tk) : flat0 (l.map Tk.row) = true := by simp [flat0, Tk.low]
theorem Tk.flat1 (e : Tk) : flat0 [e.row] = true := by simp [flat0, Tk.low]
theorem Tk.exact : Exact rTk := by
  intro r e h
  simp only [rTk, RCod.plain] at h ⊢
  unfold tkDec at h
  split at h
  · simp at h; subst h; rfl
  · cases h
theorem Tk.mapMt (k : Nat) (l : List Tk) : (List.take k (l.map Tk.row)).mapM tkDec = some (l.take k) := by rw [← List.map_take]; exact mapM_dec rTk _
theorem Tk.mapMd (k : Nat) (l : List Tk) : (List.drop k (l.map Tk.row)).mapM tkDec = some (l.drop k) := by rw [← List.map_drop]; exact mapM_dec rTk _
theorem Tk.coldt (k : Nat) (l : List Tk) : coldR (List.take k (l.map Tk.row)) = List.take k (l.map Tk.row) := by rw [← List.map_take]; exact Tk.cold _
theorem Tk.coldd (k : Nat) (l : List Tk) : coldR (List.drop k (l.map Tk.row)) = List.drop k (l.map Tk.row) := by rw [← List.map_drop]; exact Tk.cold _
theorem Tk.hotRt (k : Nat) (l : List Tk) : AI.hotR (List.take k (l.map Tk.row)) = true := by rw [← List.map_take]; exact Tk.hotR _
theorem Tk.hotRd (k : Nat) (l : List Tk) : AI.hotR (List.drop k (l.map Tk.row)) = true := by rw [← List.map_drop]; exact Tk.hotR _
attribute [local simp] Tk.hotRt Tk.hotRd
attribute [local simp] Tk.tau Tk.tauc Tk.bare Tk.flat Tk.flat1 Tk.mapMt Tk.mapMd Tk.coldt Tk.coldd
attribute [local simp] Tk.cold Tk.mapM Tk.mapMc Tk.view Tk.viewc Tk.hotR Tk.ren Tk.renc Tk.low
def rCapT : RCod Tk := rCell (cFp rTk)
theorem tkClone : InlOk Try.prog 63 (cloneI 4) := by
  refine inl_soft Try.func63 rfl ?_
  intro args H r H' hr
  rcases cloneI_some hr with ⟨o, rows, rfl, hl, hc⟩ | ⟨id, st, k, kc, rows, rfl, hob, hle, hl, hc⟩ | ⟨rfl, rfl, rfl⟩
  · refine ⟨by simp [Try.ntmps63], wpA_sound noOrc_ok fxMix _ _ _ _ (by kernel_rfl) ?_⟩
    rcases hc with ⟨rfl, rfl, rfl⟩ | ⟨h0, rfl, rfl⟩
    · simp [Try.ntmps63, Try.results63, noOrc]
    · simp [Try.ntmps63, Try.results63, h0, hl, noOrc]
  · refine ⟨by simp [Try.ntmps63], wpA_sound noOrc_ok fxMix _ _ _ _ (by kernel_rfl) ?_⟩
    have hob' := obj_get hob
    have e1 : min k (rows.length - st) = k := by omega
    have e2 : st + k ≤ rows.length := hle
    have e3 : st ≤ rows.length := by omega
    rcases hc with ⟨rfl, rfl, rfl⟩ | ⟨h0, rfl, rfl⟩
    · simp [Try.ntmps63, Try.results63, noOrc, hob', e2, e3]
    · simp [Try.ntmps63, Try.results63, hl, noOrc, hob', e1, e2, h0]
  · refine ⟨by simp [Try.ntmps63], wpA_sound noOrc_ok fxMix _ _ _ _ (by kernel_rfl) ?_⟩
    simp [Try.ntmps63, Try.results63, noOrc]
theorem chk1_pure : PureOk Try.prog 48 (argM (cAgg rTk) fun x => argM (cFp rTk) fun t => finM (some (.v (.bool (x.id == t.id))))) := by
  refine pure2 Try.func48 rfl ?_
  rintro x t r hr
  simp only [Option.some.injEq] at hr
  subst hr
  refine body_gen noOrc_ok fxMix (by kernel_rfl) (by simp [Try.ntmps48]) ?_
  intro C cP cI cN cD cF cA
  replace cI : C.inl = fun _ => false := cI
  replace cD : C.dyn = fun _ => [] := cD
  clear cP cN cF cA
  simp [Try.ntmps48, Try.results48, cSl, cI, cD, rTk, Tk.row, tkDec]
theorem chkI_pure : PureOk Try.prog 27 (argM (cSl rTk) fun l => argM (cFn 48 rCapT) fun cp => finM (if l.length ≤ 4294967296 then some (.v (.int .i64 (idxP ((fun x => x.id == cp.id)) l))) else none)) := by
  refine pure2 Try.func27 rfl ?_
  rintro l cp r hr
  by_cases hc : l.length ≤ 4294967296
  case neg => rw [if_neg hc] at hr; cases hr
  rw [if_pos hc] at hr
  simp only [Option.some.injEq] at hr
  subst hr
  refine body_gen (noOrc_ok.withP chk1_pure) fxMix (by kernel_rfl) (by simp [Try.ntmps27]) ?_
  intro C cP cI cN cD cF cA
  have cp0 := orcP chk1_pure (C := C) (by rw [cP]; rfl)
  replace cI : C.inl = fun _ => false := cI
  replace cD : C.dyn = fun _ => [] := cD
  clear cP cN cF cA
  simp [Try.ntmps27, Try.results27, cSl, cp0, cI, cD, rTk, Tk.row, tkDec, rCapT]
  refine loop_for l.length (fun k (_ : Unit) => ([(0, .fsl false 4 (l.map Tk.row)), (1, .fn 48 [.fptr cp.row 0]), (7, .v (.int .i64 l.length)), (8, .v (.int .i64 k))], [])) (fun k _ => ((l.drop k).findIdx? ((fun x => x.id == cp.id))).map (· + k) = l.findIdx? ((fun x => x.id == cp.id))) () hc (by simp) (by simp [rTk, Tk.row, tkDec, rCapT]) ?_ ?_
  · intro k _ hk hall hw
    by_cases q : ((fun x => x.id == cp.id)) l[k] = true
    · rw [find_drop hk, if_pos q] at hall
      try simp at q
      simp [Try.ntmps27, Try.results27, cSl, cp0, cI, cD, hk, hw, rTk, Tk.row, tkDec, rCapT, q, idxP, ← hall]
    · rw [find_drop hk, if_neg q] at hall
      try simp at q
      simp [Try.ntmps27, Try.results27, cSl, cp0, cI, cD, hk, hw, rTk, Tk.row, tkDec, rCapT, q]
      simpa using hall
  · intro _ hall
    simp at hall
    simp [Try.ntmps27, Try.results27, cSl, cp0, cI, cD, idxP, ← hall]
theorem chkC_pure : PureOk Try.prog 47 (argM (cSl rTk) fun l => argM (cFn 48 rCapT) fun cp => finM (if l.length ≤ 4294967296 then some (.v (.bool (l.any ((fun x => x.id == cp.id))))) else none)) := by
  refine pure2 Try.func47 rfl ?_
  rintro l cp r hr
  by_cases hc : l.length ≤ 4294967296
  case neg => rw [if_neg hc] at hr; cases hr
  rw [if_pos hc] at hr
  simp only [Option.some.injEq] at hr
  subst hr
  refine body_gen (noOrc_ok.withP chkI_pure) fxMix (by kernel_rfl) (by simp [Try.ntmps47]) ?_
  intro C cP cI cN cD cF cA
  have cp0 := orcP chkI_pure (C := C) (by rw [cP]; rfl)
  replace cI : C.inl = fun _ => false := cI
  replace cD : C.dyn = fun _ => [] := cD
  clear cP cN cF cA
  simp [Try.ntmps47, Try.results47, cSl, cp0, cI, cD, hc, idxP_iff, rTk, Tk.row, tkDec, rCapT] <;> (rw [Bool.eq_iff_iff]; simp)
def Tk.bad (t : Tk) : Bool := decide (t.id < 1) || decide (16 < t.id) || decide (t.pages < 0) || decide (1048576 < t.pages) || decide (t.score < 0) || decide (1048576 < t.score)
def tkGo : List Tk → List Tk → Int
  | _, [] => 0
  | seen, t :: r => if t.bad = true then 1 else if seen.any (fun x => x.id == t.id) = true then 5 else tkGo (seen ++ [t]) r
def tkCheck (l : List Tk) : Int := if 16 < l.length then 2 else tkGo [] l
theorem tkCheck_pure : PureOk Try.prog 26 (argM (cSl rTk) fun l => finM (some (.v (.int .i64 (tkCheck l))))) := by
  refine pure1 Try.func26 rfl ?_
  rintro l r hr
  simp only [Option.some.injEq] at hr
  subst hr
  refine body_gen (noOrc_ok.withP chkC_pure) fxMix (by kernel_rfl) (by simp [Try.ntmps26]) ?_
  intro C cP cI cN cD cF cA
  have cp0 := orcP chkC_pure (C := C) (by rw [cP]; rfl)
  replace cI : C.inl = fun _ => false := cI
  replace cD : C.dyn = fun _ => [] := cD
  clear cP cN cF cA
  unfold tkCheck
  by_cases h1 : 16 < l.length
  · have h1' := eq_true (show (16 : Int) < l.length by omega)
    simp [Try.ntmps26, Try.results26, cSl, cp0, cI, cD, rTk, h1, h1']
    done
  have h1' : ¬ (16 : Int) < l.length := by omega
  simp [Try.ntmps26, Try.results26, cSl, cp0, cI, cD, rTk, h1, h1']
  refine loop_for l.length (fun k (_ : Unit) => ([(0, .fsl false 4 (l.map Tk.row)), (8, .fsl false 4 (l.map Tk.row)), (9, .v (.int .i64 l.length)), (10, .v (.int .i64 k))], [])) (fun k _ => tkGo (l.take k) (l.drop k) = tkGo [] l) () (by omega) (by simp) (by simp) ?_ ?_
  · intro k _ hk hall hw
    rw [List.drop_eq_getElem_cons hk] at hall
    simp only [tkGo, ← List.take_succ_eq_append_getElem hk] at hall
    have hkl : k ≤ l.length := by omega
    have hkz : (k : Int) ≤ l.length := by omega
    have hk4 : k ≤ 4294967296 := by omega
    have hmin : min k l.length = k := by omega
    cases hb : (l[k]).bad with
    | true =>
      rw [hb, if_pos rfl] at hall
      by_cases s0 : (l[k]).id < 1
      · simp [Try.ntmps26, Try.results26, cSl, cp0, cI, cD, Tk.row, tkDec, rTk, hk, hw, s0, ← hall]
        done
      by_cases s1 : 16 < (l[k]).id
      · simp [Try.ntmps26, Try.results26, cSl, cp0, cI, cD, Tk.row, tkDec, rTk, hk, hw, s0, s1, ← hall]
        done
      by_cases o0 : (l[k]).pages < 0
      · simp [Try.ntmps26, Try.results26, cSl, cp0, cI, cD, Tk.row, tkDec, rTk, hk, hw, s0, s1, o0, ← hall]
        done
      by_cases o1 : 1048576 < (l[k]).pages
      · simp [Try.ntmps26, Try.results26, cSl, cp0, cI, cD, Tk.row, tkDec, rTk, hk, hw, s0, s1, o0, o1, ← hall]
        done
      by_cases c0 : (l[k]).score < 0
      · simp [Try.ntmps26, Try.results26, cSl, cp0, cI, cD, Tk.row, tkDec, rTk, hk, hw, s0, s1, o0, o1, c0, ← hall]
        done
      by_cases c1 : 1048576 < (l[k]).score
      · simp [Try.ntmps26, Try.results26, cSl, cp0, cI, cD, Tk.row, tkDec, rTk, hk, hw, s0, s1, o0, o1, c0, c1, ← hall]
        done
      · simp [Tk.bad, s0, s1, o0, o1, c0, c1] at hb
    | false =>
      rw [hb] at hall
      simp only [Bool.false_eq_true, if_false] at hall
      simp only [Tk.bad, Bool.or_eq_false_iff, decide_eq_false_iff_not] at hb
      obtain ⟨⟨⟨⟨⟨s0, s1⟩, o0⟩, o1⟩, c0⟩, c1⟩ := hb
      have e0 : tkDec (Tk.row l[k]) = some l[k] := rfl
      cases hs : (l.take k).any (fun x => x.id == (l[k]).id) with
      | true =>
        rw [hs, if_pos rfl] at hall
        simp [Try.ntmps26, Try.results26, cSl, cp0, cI, cD, Tk.row, tkDec, rTk, rCapT, hk, hw, s0, s1, o0, o1, c0, c1, hkl, hkz, hk4, hmin, hs, ← hall]
        try done
      | false =>
        rw [hs] at hall
        simp only [Bool.false_eq_true, if_false] at hall
        simp [Try.ntmps26, Try.results26, cSl, cp0, cI, cD, Tk.row, tkDec, rTk, rCapT, hk, hw, s0, s1, o0, o1, c0, c1, hkl, hkz, hk4, hmin, hs, hall]
        try done
  · intro _ hall
    simp [tkGo] at hall
    simp [Try.ntmps26, Try.results26, cSl, cp0, cI, cD, ← hall]
    done
def tkNeed (l : List Tk) (n : Int) : Int := if tkCheck l = 0 then (if n < 1 ∨ 1048576 < n then 1 else 0) else tkCheck l
theorem tkNeed_pure : PureOk Try.prog 44 (argM (cSl rTk) fun l => argM (cInt .i64) fun n => finM (some (.v (.int .i64 (tkNeed l n))))) := by
  refine pure2 Try.func44 rfl ?_
  rintro l n r hr
  simp only [Option.some.injEq] at hr
  subst hr
  refine body_gen (noOrc_ok.withP tkCheck_pure) fxMix (by kernel_rfl) (by simp [Try.ntmps44]) ?_
  intro C cP cI cN cD cF cA
  have cp0 := orcP tkCheck_pure (C := C) (by rw [cP]; rfl)
  replace cI : C.inl = fun _ => false := cI
  replace cD : C.dyn = fun _ => [] := cD
  clear cP cN cF cA
  unfold tkNeed
  by_cases h1 : tkCheck l = 0
  · by_cases h2 : n < 1
    · simp [Try.ntmps44, Try.results44, cSl, cp0, cI, cD, rTk, h1, h2]
    · by_cases h3 : 1048576 < n
      · simp [Try.ntmps44, Try.results44, cSl, cp0, cI, cD, rTk, h1, h2, h3]
      · simp [Try.ntmps44, Try.results44, cSl, cp0, cI, cD, rTk, h1, h2, h3]
  · simp [Try.ntmps44, Try.results44, cSl, cp0, cI, cD, rTk, h1]
end Go.Proofs.Ytdhkhnegnlmgiaa
