/- Package tlb: processors, Check. Package tlb: Check. Package tlb: check, Look, Done. Package tlb: Done, what is forgotten. Package tlb: lines are forgotten. -/
import Derived.Test.YtdhpgdfjogklaaaFacts
import Derived.Test.YtdhpgdfjogklaaaAiZd
namespace Go.Proofs.Ytdhpgdfjogklaaa
open Go.AI
set_option maxHeartbeats 2000000
set_option maxRecDepth 100000
set_option linter.unusedSimpArgs false
set_option linter.unusedVariables false
attribute [local simp] wpA wpX RunA RunD runF foot footP footB idsA bare apart runL step1 gsel_f gsel_t gsel_s res_same res_and1 res_and2 res_and3 res_and4 res_and5 res_and6 res_false res_true res_v res_ptr res_fptr res_osl res_xsl soft aAppendZ aCap ovlI ovlJ res_fsl res_esl res_agg res_tup res_fn res_junk res_anyb aPick hk imp_left iteV dstOk guardOk astep astepE AI.ev AI.look AI.put envOf aBox cellsOf allOne allOneA oneA Value.oneCell' Value.cells newObj' aFieldAddr aLoad obj readAt thenA blockA condA retA resA tupA view hot hotC hotR depthV cAgg cInt cBool mkAgg allV aAlloc aBuild fillA writeAt aStore isAggA aField idx aIndexAddr aIndex bnd aSlice aExtract aLen aBuiltin aCall isStatic eqAgg eqTy eqC ev_add ev_sub ev_mul ev_quo ev_rem ev_and ev_or ev_xor ev_andNot ev_shl ev_shr ev_eql ev_neq ev_lss ev_leq ev_gtr ev_geq ev_agg w64 wu32 wu8 ev_not ev_neg Cod.plain RCod.plain argM finM cold coldC coldR goInt intDec boolDec aggDec Weaker heapW lowA lowC Again slDec undef aBuildSlice setRows aAppend rowsOf aMakeSlice aClear aCopy softer_self softer_nil valsOf ev_min2 ev_max2 hotR_set hotR_append take_map_set irow_cold irow_mapM irow_mapMc irow_view irow_viewc irow_hotR irow_ren irow_renc irow_low WeakT heapT thOf ren renC AgainT NextF NextT fnDec cFn rNil selfLt natLt0 natLt1 getLastMap frame0 frame1 own0 own1 argG finG tau tauI tauO tauC bareA bareC bareH irow_tau irow_tauc irow_bare irow_flat irow_bareR ownA_nil ownT_nil ownA_c ownT_c ownA_s ownT_s takeMapLen footC plainA noId noIdC cloneF frame0F frame1F insertF replaceI replaceF cellDec rCell fpDec cFp rTwo deleteF allV_oA oneA_oA res_oA RunR RunE runFT footAt hotR_cat tmodN fxSz2 fxBy2 fxAg2 fxZe2 fxSl2 fxAr2 fxPl2 fxSz3 fxBy3 fxAg3 fxZe3 fxSl3 fxAr3 fxPl3 fxSz4 fxBy4 fxAg4 fxZe4 fxSl4 fxAr4 fxPl4 fxSz5 fxBy5 fxAg5 fxZe5 fxSl5 fxAr5 fxPl5 fxSz9 fxBy9 fxAg9 fxZe9 fxSl9 fxAr9 fxPl9 fxSz12 fxBy12 fxAg12 fxZe12 fxSl12 fxAr12 fxPl12 fxSz13 fxBy13 fxAg13 fxZe13 fxSl13 fxAr13 fxFi13x0 fxFi13x1 fxPl13 fxSz21 fxBy21 fxAg21 fxZe21 fxSl21 fxAr21 fxPl21 fxSz22 fxBy22 fxAg22 fxZe22 fxSl22 fxAr22 fxPl22 fxSz23 fxBy23 fxAg23 fxZe23 fxSl23 fxAr23 fxFi23x0 fxFi23x1 fxPl23 fxSz24 fxBy24 fxAg24 fxZe24 fxSl24 fxAr24 fxFi24x0 fxFi24x1 fxPl24 fxSz25 fxBy25 fxAg25 fxZe25 fxSl25 fxAr25 fxPl25 fxSz26 fxBy26 fxAg26 fxZe26 fxSl26 fxAr26 fxPl26 fxSz27 fxBy27 fxAg27 fxZe27 fxSl27 fxAr27 fxFi27x0 fxFi27x1 fxFi27x2 fxFi27x3 fxFi27x4 fxFi27x5 fxFi27x6 fxPl27 fxSz28 fxBy28 fxAg28 fxZe28 fxSl28 fxAr28 fxFi28x0 fxFi28x1 fxFi28x2 fxFi28x3 fxFi28x4 fxFi28x5 fxFi28x6 fxPl28 fxSz29 fxBy29 fxAg29 fxZe29 fxSl29 fxAr29 fxPl29 fxSz44 fxBy44 fxAg44 fxZe44 fxSl44 fxAr44 fxPl44 fxSz45 fxBy45 fxAg45 fxZe45 fxSl45 fxAr45 fxPl45 fxSz52 fxBy52 fxAg52 fxZe52 fxSl52 fxAr52 fxPl52 fxSz54 fxBy54 fxAg54 fxZe54 fxSl54 fxAr54 fxFi54x0 fxFi54x1 fxPl54 fxSz55 fxBy55 fxAg55 fxZe55 fxSl55 fxAr55 fxFi55x0 fxFi55x1 fxPl55 fxSz56 fxBy56 fxAg56 fxZe56 fxSl56 fxAr56 fxPl56 fxSz60 fxBy60 fxAg60 fxZe60 fxSl60 fxAr60 fxPl60 fxSz61 fxBy61 fxAg61 fxZe61 fxSl61 fxAr61 fxPl61 fxSz62 fxBy62 fxAg62 fxZe62 fxSl62 fxAr62 fxFi62x0 fxFi62x1 fxPl62 fxSz63 fxBy63 fxAg63 fxZe63 fxSl63 fxAr63 fxFi63x0 fxFi63x1 fxPl63 fxSz76 fxBy76 fxAg76 fxZe76 fxSl76 fxAr76 fxPl76 fxSz83 fxBy83 fxAg83 fxZe83 fxSl83 fxAr83 fxFi83x0 fxFi83x1 fxFi83x2 fxPl83 fxSz84 fxBy84 fxAg84 fxZe84 fxSl84 fxAr84 fxFi84x0 fxFi84x1 fxFi84x2 fxPl84 fxSz99 fxBy99 fxAg99 fxZe99 fxSl99 fxAr99 fxPl99 fxSz106 fxBy106 fxAg106 fxZe106 fxSl106 fxAr106 fxPl106 fxSz107 fxBy107 fxAg107 fxZe107 fxSl107 fxAr107 fxFi107x0 fxPl107 fxSz113 fxBy113 fxAg113 fxZe113 fxSl113 fxAr113 fxPl113 fxSz118 fxBy118 fxAg118 fxZe118 fxSl118 fxAr118 fxPl118 fxEq28 fxEq55 fxEq56 fxEq84 fxCv2x2 fxCv2x3 fxCv2x5 fxCv2x12 fxCv2x21 fxCv2x29 fxCv2x45 fxCv3x2 fxCv3x3 fxCv3x5 fxCv3x12 fxCv3x21 fxCv3x29 fxCv3x45 fxCv5x2 fxCv5x3 fxCv5x5 fxCv5x12 fxCv5x21 fxCv5x29 fxCv5x45 fxCv12x2 fxCv12x3 fxCv12x5 fxCv12x12 fxCv12x21 fxCv12x29 fxCv12x45 fxCv21x2 fxCv21x3 fxCv21x5 fxCv21x12 fxCv21x21 fxCv21x29 fxCv21x45 fxCv29x2 fxCv29x3 fxCv29x5 fxCv29x12 fxCv29x21 fxCv29x29 fxCv29x45 fxCv45x2 fxCv45x3 fxCv45x5 fxCv45x12 fxCv45x21 fxCv45x29 fxCv45x45 fxEb4 fxNb4 fxLt9 fxLn22 fxNe22 fxNn22 fxOe22 fxOn22 fxXe22 fxXn22 fxLn44 fxNe44 fxNn44 fxOe44 fxOn44 fxXe44 fxXn44 fxLn52 fxNe52 fxNn52 fxOe52 fxOn52 fxXe52 fxXn52 fxLn60 fxNe60 fxNn60 fxOe60 fxOn60 fxXe60 fxXn60 fxLn61 fxNe61 fxNn61 fxOe61 fxOn61 fxXe61 fxXn61 fxLn76 fxNe76 fxNn76 fxOe76 fxOn76 fxXe76 fxXn76 fxFn3 fxFm3 fxFb3 fxFi3 fxFj3 fxFn4 fxFm4 fxFb4 fxFi4 fxFj4 fxFn5 fxFm5 fxFb5 fxFi5 fxFj5 fxFn6 fxFm6 fxFb6 fxFi6 fxFj6 fxFn7 fxFm7 fxFb7 fxFi7 fxFj7 fxFn8 fxFm8 fxFb8 fxFi8 fxFj8 fxFn9 fxFm9 fxFb9 fxFi9 fxFj9 fxFn10 fxFm10 fxFb10 fxFi10 fxFj10 fxFn11 fxFm11 fxFb11 fxFi11 fxFj11 fxFn12 fxFm12 fxFb12 fxFi12 fxFj12 fxFn13 fxFm13 fxFb13 fxFi13 fxFj13 fxFn14 fxFm14 fxFb14 fxFi14 fxFj14 fxFn15 fxFm15 fxFb15 fxFi15 fxFj15 fxFn16 fxFm16 fxFb16 fxFi16 fxFj16 fxFn17 fxFm17 fxFb17 fxFi17 fxFj17 fxFn18 fxFm18 fxFb18 fxFi18 fxFj18 fxFn19 fxFm19 fxFb19 fxFi19 fxFj19 fxFn20 fxFm20 fxFb20 fxFi20 fxFj20 fxFn21 fxFm21 fxFb21 fxFi21 fxFj21 fxFn22 fxFm22 fxFb22 fxFi22 fxFj22 fxFn23 fxFm23 fxFb23 fxFi23 fxFj23 fxFn24 fxFm24 fxFb24 fxFi24 fxFj24 fxFn25 fxFm25 fxFb25 fxFi25 fxFj25 fxFn26 fxFm26 fxFb26 fxFi26 fxFj26 fxFn27 fxFm27 fxFb27 fxFi27 fxFj27 fxFn28 fxFm28 fxFb28 fxFi28 fxFj28 fxFn29 fxFm29 fxFb29 fxFi29 fxFj29 fxFn30 fxFm30 fxFb30 fxFi30 fxFj30 fxFn31 fxFm31 fxFb31 fxFi31 fxFj31 fxFn32 fxFm32 fxFb32 fxFi32 fxFj32 fxFn33 fxFm33 fxFb33 fxFi33 fxFj33 fxFn34 fxFm34 fxFb34 fxFi34 fxFj34 fxFn35 fxFm35 fxFb35 fxFi35 fxFj35 fxFn36 fxFm36 fxFb36 fxFi36 fxFj36 fxFn37 fxFm37 fxFb37 fxFi37 fxFj37 fxFn38 fxFm38 fxFb38 fxFi38 fxFj38 fxFn39 fxFm39 fxFb39 fxFi39 fxFj39 fxFn40 fxFm40 fxFb40 fxFi40 fxFj40 fxFn41 fxFm41 fxFb41 fxFi41 fxFj41 fxFn42 fxFm42 fxFb42 fxFi42 fxFj42 fxFn43 fxFm43 fxFb43 fxFi43 fxFj43 fxFn44 fxFm44 fxFb44 fxFi44 fxFj44 fxFn45 fxFm45 fxFb45 fxFi45 fxFj45 fxFn46 fxFm46 fxFb46 fxFi46 fxFj46 fxFn47 fxFm47 fxFb47 fxFi47 fxFj47 fxFn48 fxFm48 fxFb48 fxFi48 fxFj48 fxFn49 fxFm49 fxFb49 fxFi49 fxFj49 fxFn50 fxFm50 fxFb50 fxFi50 fxFj50 fxFn51 fxFm51 fxFb51 fxFi51 fxFj51 fxFn52 fxFm52 fxFb52 fxFi52 fxFj52 fxFn53 fxFm53 fxFb53 fxFi53 fxFj53 fxFn54 fxFm54 fxFb54 fxFi54 fxFj54 fxFn55 fxFm55 fxFb55 fxFi55 fxFj55 fxFn56 fxFm56 fxFb56 fxFi56 fxFj56 fxFn57 fxFm57 fxFb57 fxFi57 fxFj57 fxFn58 fxFm58 fxFb58 fxFi58 fxFj58 fxFn59 fxFm59 fxFb59 fxFi59 fxFj59 fxFn60 fxFm60 fxFb60 fxFi60 fxFj60
structure Ln where
  space : Int
  page : Int
  word : Int
  deriving DecidableEq
def lnDec : Row → Option Ln
  | [.v (.int .i64 x0), .v (.int .i64 x1), .v (.int .u32 x2)] => some ⟨x0, x1, x2⟩
  | _ => none
def Ln.row (e : Ln) : Row := [.v (.int .i64 e.space), .v (.int .i64 e.page), .v (.int .u32 e.word)]
def rLn : RCod Ln := RCod.plain 3 Ln.row lnDec
  (fun e => rfl) (fun _ => rfl) (fun r e h => by
    unfold lnDec at h
    split at h
    · simp at h; subst h; rfl
    · cases h)
def Ln.val (e : Ln) : Value := .agg #[.int .i64 e.space, .int .i64 e.page, .int .u32 e.word]
theorem Ln.eta (e : Ln) : Ln.mk e.space e.page e.word = e := rfl
attribute [local simp] Ln.eta
theorem Ln.cold (l : List Ln) : coldR (l.map Ln.row) = l.map Ln.row := by
  induction l with
  | nil => simp [coldR]
  | cons e l ih => simp [coldR, coldC, AI.cold, ih, Ln.row]
theorem Ln.mapM (l : List Ln) : (l.map Ln.row).mapM lnDec = some l := mapM_dec rLn l
theorem Ln.mapMc (l : List Ln) : l.mapM (lnDec ∘ Ln.row) = some l := mapM_dec' rLn l
theorem Ln.view (H : Heap) (n : Nat) (e : Ln) : List.map (AI.view H n) e.row = e.row := by cases n <;> simp [Ln.row, AI.view]
theorem Ln.viewc (H : Heap) (n : Nat) : List.map (AI.view H n) ∘ Ln.row = Ln.row := by funext e; exact Ln.view H n e
theorem Ln.hotR (l : List Ln) : AI.hotR (l.map Ln.row) = true := by
  induction l with
  | nil => simp [AI.hotR]
  | cons e l ih => simp [AI.hotR, hotC, hot, ih, Ln.row]
theorem Ln.ren (n : Nat) (th : List Nat) (e : Ln) : List.map (AI.ren n th) e.row = e.row := by simp [Ln.row, AI.ren]
theorem Ln.renc (n : Nat) (th : List Nat) : List.map (AI.ren n th) ∘ Ln.row = Ln.row := by funext e; exact Ln.ren n th e
theorem Ln.low (n : Nat) (e : Ln) : e.row.all (lowA n) = true := by simp [Ln.row, lowA]
theorem Ln.tau (fp : List Nat) (n : Nat) (e : Ln) : List.map (AI.tau fp n) e.row = e.row := by simp [Ln.row, AI.tau]
theorem Ln.tauc (fp : List Nat) (n : Nat) : List.map (AI.tau fp n) ∘ Ln.row = Ln.row := by funext e; exact Ln.tau fp n e
theorem Ln.bare (e : Ln) : e.row.all bareA = true := by simp [Ln.row, bareA]
theorem Ln.flat (l : List Ln) : flat0 (l.map Ln.row) = true := by simp [flat0, Ln.low]
theorem Ln.flat1 (e : Ln) : flat0 [e.row] = true := by simp [flat0, Ln.low]
theorem Ln.exact : Exact rLn := by
  intro r e h
  simp only [rLn, RCod.plain] at h ⊢
  unfold lnDec at h
  split at h
  · simp at h; subst h; rfl
  · cases h
theorem Ln.mapMt (k : Nat) (l : List Ln) : (List.take k (l.map Ln.row)).mapM lnDec = some (l.take k) := by rw [← List.map_take]; exact mapM_dec rLn _
theorem Ln.mapMd (k : Nat) (l : List Ln) : (List.drop k (l.map Ln.row)).mapM lnDec = some (l.drop k) := by rw [← List.map_drop]; exact mapM_dec rLn _
theorem Ln.coldt (k : Nat) (l : List Ln) : coldR (List.take k (l.map Ln.row)) = List.take k (l.map Ln.row) := by rw [← List.map_take]; exact Ln.cold _
theorem Ln.coldd (k : Nat) (l : List Ln) : coldR (List.drop k (l.map Ln.row)) = List.drop k (l.map Ln.row) := by rw [← List.map_drop]; exact Ln.cold _
theorem Ln.hotRt (k : Nat) (l : List Ln) : AI.hotR (List.take k (l.map Ln.row)) = true := by rw [← List.map_take]; exact Ln.hotR _
theorem Ln.hotRd (k : Nat) (l : List Ln) : AI.hotR (List.drop k (l.map Ln.row)) = true := by rw [← List.map_drop]; exact Ln.hotR _
attribute [local simp] Ln.hotRt Ln.hotRd
attribute [local simp] Ln.tau Ln.tauc Ln.bare Ln.flat Ln.flat1 Ln.mapMt Ln.mapMd Ln.coldt Ln.coldd
attribute [local simp] Ln.cold Ln.mapM Ln.mapMc Ln.view Ln.viewc Ln.hotR Ln.ren Ln.renc Ln.low
structure Od where
  space : Int
  page : Int
  deriving DecidableEq
def odDec : Row → Option Od
  | [.v (.int .i64 x0), .v (.int .i64 x1)] => some ⟨x0, x1⟩
  | _ => none
def Od.row (e : Od) : Row := [.v (.int .i64 e.space), .v (.int .i64 e.page)]
def rOd : RCod Od := RCod.plain 2 Od.row odDec
  (fun e => rfl) (fun _ => rfl) (fun r e h => by
    unfold odDec at h
    split at h
    · simp at h; subst h; rfl
    · cases h)
def Od.val (e : Od) : Value := .agg #[.int .i64 e.space, .int .i64 e.page]
theorem Od.eta (e : Od) : Od.mk e.space e.page = e := rfl
attribute [local simp] Od.eta
theorem Od.cold (l : List Od) : coldR (l.map Od.row) = l.map Od.row := by
  induction l with
  | nil => simp [coldR]
  | cons e l ih => simp [coldR, coldC, AI.cold, ih, Od.row]
theorem Od.mapM (l : List Od) : (l.map Od.row).mapM odDec = some l := mapM_dec rOd l
theorem Od.mapMc (l : List Od) : l.mapM (odDec ∘ Od.row) = some l := mapM_dec' rOd l
theorem Od.view (H : Heap) (n : Nat) (e : Od) : List.map (AI.view H n) e.row = e.row := by cases n <;> simp [Od.row, AI.view]
theorem Od.viewc (H : Heap) (n : Nat) : List.map (AI.view H n) ∘ Od.row = Od.row := by funext e; exact Od.view H n e
theorem Od.hotR (l : List Od) : AI.hotR (l.map Od.row) = true := by
  induction l with
  | nil => simp [AI.hotR]
  | cons e l ih => simp [AI.hotR, hotC, hot, ih, Od.row]
theorem Od.ren (n : Nat) (th : List Nat) (e : Od) : List.map (AI.ren n th) e.row = e.row := by simp [Od.row, AI.ren]
theorem Od.renc (n : Nat) (th : List Nat) : List.map (AI.ren n th) ∘ Od.row = Od.row := by funext e; exact Od.ren n th e
theorem Od.low (n : Nat) (e : Od) : e.row.all (lowA n) = true := by simp [Od.row, lowA]
theorem Od.tau (fp : List Nat) (n : Nat) (e : Od) : List.map (AI.tau fp n) e.row = e.row := by simp [Od.row, AI.tau]
theorem Od.tauc (fp : List Nat) (n : Nat) : List.map (AI.tau fp n) ∘ Od.row = Od.row := by funext e; exact Od.tau fp n e
theorem Od.bare (e : Od) : e.row.all bareA = true := by simp [Od.row, bareA]
theorem Od.flat (l : List Od) : flat0 (l.map Od.row) = true := by simp [flat0, Od.low]
theorem Od.flat1 (e : Od) : flat0 [e.row] = true := by simp [flat0, Od.low]
theorem Od.exact : Exact rOd := by
  intro r e h
  simp only [rOd, RCod.plain] at h ⊢
  unfold odDec at h
  split at h
  · simp at h; subst h; rfl
  · cases h
theorem Od.mapMt (k : Nat) (l : List Od) : (List.take k (l.map Od.row)).mapM odDec = some (l.take k) := by rw [← List.map_take]; exact mapM_dec rOd _
theorem Od.mapMd (k : Nat) (l : List Od) : (List.drop k (l.map Od.row)).mapM odDec = some (l.drop k) := by rw [← List.map_drop]; exact mapM_dec rOd _
theorem Od.coldt (k : Nat) (l : List Od) : coldR (List.take k (l.map Od.row)) = List.take k (l.map Od.row) := by rw [← List.map_take]; exact Od.cold _
theorem Od.coldd (k : Nat) (l : List Od) : coldR (List.drop k (l.map Od.row)) = List.drop k (l.map Od.row) := by rw [← List.map_drop]; exact Od.cold _
theorem Od.hotRt (k : Nat) (l : List Od) : AI.hotR (List.take k (l.map Od.row)) = true := by rw [← List.map_take]; exact Od.hotR _
theorem Od.hotRd (k : Nat) (l : List Od) : AI.hotR (List.drop k (l.map Od.row)) = true := by rw [← List.map_drop]; exact Od.hotR _
attribute [local simp] Od.hotRt Od.hotRd
attribute [local simp] Od.tau Od.tauc Od.bare Od.flat Od.flat1 Od.mapMt Od.mapMd Od.coldt Od.coldd
attribute [local simp] Od.cold Od.mapM Od.mapMc Od.view Od.viewc Od.hotR Od.ren Od.renc Od.low
structure Cpu where
  lines : List Ln
  orders : List Od
  deriving DecidableEq
def cpuDec : Row → Option Cpu
  | [a0, a1] => match slDec rLn a0, slDec rOd a1 with | some x0, some x1 => some ⟨x0, x1⟩ | _, _ => none
  | _ => none
def Cpu.row (e : Cpu) : Row := [.fsl false 3 (e.lines.map Ln.row), .fsl false 2 (e.orders.map Od.row)]
def Cpu.hrow (e : Cpu) : Row := [.fsl true 3 (e.lines.map Ln.row), .fsl true 2 (e.orders.map Od.row)]
theorem Cpu.eta (e : Cpu) : Cpu.mk e.lines e.orders = e := rfl
theorem Cpu.dec_row (e : Cpu) : cpuDec e.row = some e := by
  have h0 := (cSl rLn).de e.lines
  have h1 := (cSl rOd).de e.orders
  simp only [cSl] at h0 h1
  simp only [cpuDec, Cpu.row]
  erw [h0]
  erw [h1]
theorem Cpu.dec_hrow (e : Cpu) : cpuDec e.hrow = some e := Cpu.dec_row e
def rCpu : RCod Cpu where
  sz := 2
  enc := Cpu.row
  dec := cpuDec
  de := Cpu.dec_row
  len _ := rfl
  ok := by
    intro r e h β ok w n x hok hr
    unfold cpuDec at h
    split at h
    · split at h
      · rename_i h0 h1
        simp at h
        subst h
        refine ⟨rfl, fun j c hj => ?_⟩
        match j, hj with
        | 0, hj => simp [Cpu.row] at hj; subst hj; exact (cSl rLn).ok h0 hok (hr 0 _ rfl)
        | 1, hj => simp [Cpu.row] at hj; subst hj; exact (cSl rOd).ok h1 hok (hr 1 _ rfl)
        | j + 2, hj => simp [Cpu.row] at hj
      · cases h
    · cases h
theorem Cpu.cold (l : List Cpu) : coldR (l.map Cpu.row) = l.map Cpu.row := by
  induction l with
  | nil => simp [coldR]
  | cons e l ih => simp [coldR, coldC, AI.cold, ih, Cpu.row, Ln.cold, Od.cold, irow_cold]
theorem Cpu.hcold (l : List Cpu) : coldR (l.map Cpu.hrow) = l.map Cpu.row := by
  induction l with
  | nil => simp [coldR]
  | cons e l ih => simp [coldR, coldC, AI.cold, ih, Cpu.row, Cpu.hrow, Ln.cold, Od.cold, irow_cold]
theorem Cpu.mapM (l : List Cpu) : (l.map Cpu.row).mapM cpuDec = some l := mapM_dec rCpu l
theorem Cpu.mapMc (l : List Cpu) : l.mapM (cpuDec ∘ Cpu.row) = some l := mapM_dec' rCpu l
theorem Cpu.hmapM (l : List Cpu) : (l.map Cpu.hrow).mapM cpuDec = some l := by
  rw [List.mapM_map]
  have : cpuDec ∘ Cpu.hrow = cpuDec ∘ Cpu.row := by funext e; simp [Function.comp, Cpu.dec_row, Cpu.dec_hrow]
  rw [this]; exact Cpu.mapMc l
theorem Cpu.hmapMc (l : List Cpu) : l.mapM (cpuDec ∘ Cpu.hrow) = some l := by
  have := Cpu.hmapM l
  rwa [List.mapM_map] at this
theorem Cpu.view (H : Heap) (n : Nat) (e : Cpu) : List.map (AI.view H n) e.row = e.row := by cases n <;> simp [Cpu.row, AI.view]
theorem Cpu.viewc (H : Heap) (n : Nat) : List.map (AI.view H n) ∘ Cpu.row = Cpu.row := by funext e; exact Cpu.view H n e
theorem Cpu.hview (H : Heap) (n : Nat) (e : Cpu) : List.map (AI.view H n) e.hrow = e.hrow := by cases n <;> simp [Cpu.hrow, AI.view]
theorem Cpu.hviewc (H : Heap) (n : Nat) : List.map (AI.view H n) ∘ Cpu.hrow = Cpu.hrow := by funext e; exact Cpu.hview H n e
theorem Cpu.hotR (l : List Cpu) : AI.hotR (l.map Cpu.hrow) = true := by
  induction l with
  | nil => simp [AI.hotR]
  | cons e l ih => simp [AI.hotR, hotC, hot, ih, Cpu.hrow, Ln.hotR, Od.hotR, irow_hotR]
theorem Cpu.ren (n : Nat) (th : List Nat) (e : Cpu) : List.map (AI.ren n th) e.row = e.row := by simp [Cpu.row, AI.ren]
theorem Cpu.renc (n : Nat) (th : List Nat) : List.map (AI.ren n th) ∘ Cpu.row = Cpu.row := by funext e; exact Cpu.ren n th e
theorem Cpu.low (n : Nat) (e : Cpu) : e.row.all (lowA n) = true := by simp [Cpu.row, lowA]
theorem Cpu.hlow (n : Nat) (e : Cpu) : e.hrow.all (lowA n) = true := by simp [Cpu.hrow, lowA]
attribute [local simp] Cpu.hlow Cpu.eta Cpu.dec_row Cpu.dec_hrow Cpu.cold Cpu.hcold Cpu.mapM Cpu.mapMc Cpu.hmapM Cpu.hmapMc Cpu.view Cpu.viewc Cpu.hview Cpu.hviewc Cpu.hotR Cpu.ren Cpu.renc Cpu.low

def okSP (s p : Int) : Bool := decide (1 ≤ s ∧ s ≤ 16 ∧ 0 ≤ p ∧ p < 64)
theorem tlRight_pure : PureOk Try.prog 39 (argM (cInt .i64) fun s => argM (cInt .i64) fun p => finM (some (.v (.bool (okSP s p))))) := by
  refine pure2 Try.func39 rfl ?_
  rintro s p r hr
  simp only [Option.some.injEq] at hr
  subst hr
  refine body_gen noOrc_ok fxMix (by kernel_rfl) (by simp [Try.ntmps39]) ?_
  intro C cP cI cN cD cF cA
  replace cI : C.inl = fun _ => false := cI
  replace cD : C.dyn = fun _ => [] := cD
  clear cP cN cF cA
  unfold okSP
  by_cases h3 : 1 ≤ s <;> by_cases h4 : s ≤ 16 <;> by_cases h5 : 0 ≤ p <;> by_cases h6 : p < 64 <;> simp [Try.ntmps39, Try.results39, cSl, cI, cD, h3, h4, h5, h6]
def Ln.at (x : Ln) (s p : Int) : Bool := decide (x.space = s ∧ x.page = p)
def rCapL : RCod (Int × Int) := rTwo (cFp (rI .i64)) (cFp (rI .i64))
theorem findL1_pure : PureOk Try.prog 56 (argM (cAgg rLn) fun x => argM (cFp (rI .i64)) fun a => argM (cFp (rI .i64)) fun b => finM (some (.v (.bool (x.at a b))))) := by
  refine pure3 Try.func56 rfl ?_
  rintro x a b r hr
  simp only [Option.some.injEq] at hr
  subst hr
  refine body_gen noOrc_ok fxMix (by kernel_rfl) (by simp [Try.ntmps56]) ?_
  intro C cP cI cN cD cF cA
  replace cI : C.inl = fun _ => false := cI
  replace cD : C.dyn = fun _ => [] := cD
  clear cP cN cF cA
  unfold Ln.at
  by_cases h1 : x.space = a <;> by_cases h2 : x.page = b <;> simp [Try.ntmps56, Try.results56, cSl, cI, cD, rLn, Ln.row, lnDec, rI, irow, h1, h2]
theorem findLI_pure : PureOk Try.prog 55 (argM (cSl rLn) fun l => argM (cFn 56 rCapL) fun cp => finM (if l.length ≤ 4294967296 then some (.v (.int .i64 (idxP ((fun x => x.at cp.1 cp.2)) l))) else none)) := by
  refine pure2 Try.func55 rfl ?_
  rintro l cp r hr
  by_cases hc : l.length ≤ 4294967296
  case neg => rw [if_neg hc] at hr; cases hr
  rw [if_pos hc] at hr
  simp only [Option.some.injEq] at hr
  subst hr
  refine body_gen (noOrc_ok.withP findL1_pure) fxMix (by kernel_rfl) (by simp [Try.ntmps55]) ?_
  intro C cP cI cN cD cF cA
  have cp0 := orcP findL1_pure (C := C) (by rw [cP]; rfl)
  replace cI : C.inl = fun _ => false := cI
  replace cD : C.dyn = fun _ => [] := cD
  clear cP cN cF cA
  simp [Try.ntmps55, Try.results55, cSl, cp0, cI, cD, rLn, Ln.row, lnDec, rCapL, rI, irow, irowDec]
  refine loop_for l.length (fun k (_ : Unit) => ([(0, .fsl false 3 (l.map Ln.row)), (1, .fn 56 [.fptr (irow .i64 cp.1) 0, .fptr (irow .i64 cp.2) 0]), (7, .v (.int .i64 l.length)), (8, .v (.int .i64 k))], [])) (fun k _ => ((l.drop k).findIdx? ((fun x => x.at cp.1 cp.2))).map (· + k) = l.findIdx? ((fun x => x.at cp.1 cp.2))) () hc (by simp) (by simp [rLn, Ln.row, lnDec, rCapL, rI, irow, irowDec]) ?_ ?_
  · intro k _ hk hall hw
    by_cases q : ((fun x => x.at cp.1 cp.2)) l[k] = true
    · rw [find_drop hk, if_pos q] at hall
      try simp at q
      simp [Try.ntmps55, Try.results55, cSl, cp0, cI, cD, hk, hw, rLn, Ln.row, lnDec, rCapL, rI, irow, irowDec, q, idxP, ← hall]
    · rw [find_drop hk, if_neg q] at hall
      try simp at q
      simp [Try.ntmps55, Try.results55, cSl, cp0, cI, cD, hk, hw, rLn, Ln.row, lnDec, rCapL, rI, irow, irowDec, q]
      simpa using hall
  · intro _ hall
    simp at hall
    simp [Try.ntmps55, Try.results55, cSl, cp0, cI, cD, idxP, ← hall]
def tlFind (l : List Ln) (s p : Int) : Int := idxP (fun x => x.at s p) l
theorem tlFind_iff (l : List Ln) (s p : Int) : 0 ≤ tlFind l s p ↔ l.any (·.at s p) = true := idxP_iff (p := fun x : Ln => x.at s p) (l := l)
theorem tlFind_pure : PureOk Try.prog 43 (argM (cSl rLn) fun l => argM (cInt .i64) fun s => argM (cInt .i64) fun p => finM (if l.length ≤ 4294967296 then some (.v (.int .i64 (tlFind l s p))) else none)) := by
  refine pure3 Try.func43 rfl ?_
  rintro l s p r hr
  by_cases hc : l.length ≤ 4294967296
  case neg => rw [if_neg hc] at hr; cases hr
  rw [if_pos hc] at hr
  simp only [Option.some.injEq] at hr
  subst hr
  refine body_gen (noOrc_ok.withP findLI_pure) fxMix (by kernel_rfl) (by simp [Try.ntmps43]) ?_
  intro C cP cI cN cD cF cA
  have cp0 := orcP findLI_pure (C := C) (by rw [cP]; rfl)
  replace cI : C.inl = fun _ => false := cI
  replace cD : C.dyn = fun _ => [] := cD
  clear cP cN cF cA
  simp [Try.ntmps43, Try.results43, cSl, cp0, cI, cD, rLn, rCapL, rI, irow, irowDec, hc, tlFind]
def newE (n : Int) : AVal := if n < 1 ∨ 4 < n then .v (.tuple #[.slice none 0 0, .int .i64 1]) else .tup [.fsl true 2 (List.replicate n.toNat [.v (.slice none 0 0), .v (.slice none 0 0)]), .v (.int .i64 0)]
theorem newT_pure : PureOk Try.prog 44 (argM (cInt .i64) fun n => finM (some (newE n))) := by
  refine pure1 Try.func44 rfl ?_
  rintro n r hr
  simp only [Option.some.injEq] at hr
  subst hr
  refine body_gen noOrc_ok fxMix (by kernel_rfl) (by simp [Try.ntmps44]) ?_
  intro C cP cI cN cD cF cA
  replace cI : C.inl = fun _ => false := cI
  replace cD : C.dyn = fun _ => [] := cD
  clear cP cN cF cA
  unfold newE
  by_cases h1 : n < 1
  · simp [Try.ntmps44, Try.results44, cSl, cI, cD, h1]
  by_cases h2 : 4 < n
  · simp [Try.ntmps44, Try.results44, cSl, cI, cD, h1, h2]
  · obtain ⟨k, rfl⟩ := Int.eq_ofNat_of_zero_le (show 0 ≤ n by omega)
    have h3 : k = 1 ∨ k = 2 ∨ k = 3 ∨ k = 4 := by omega
    rcases h3 with rfl | rfl | rfl | rfl <;> simp [Try.ntmps44, Try.results44, cSl, cI, cD]
end Go.Proofs.Ytdhpgdfjogklaaa
namespace Go.Proofs.Ytdhpgdfjogklaaa
open Go.AI
set_option maxHeartbeats 2000000
set_option maxRecDepth 100000
set_option linter.unusedSimpArgs false
set_option linter.unusedVariables false
attribute [local simp] wpA wpX RunA RunD runF foot footP footB idsA bare apart runL step1 gsel_f gsel_t gsel_s res_same res_and1 res_and2 res_and3 res_and4 res_and5 res_and6 res_false res_true res_v res_ptr res_fptr res_osl res_xsl soft aAppendZ aCap ovlI ovlJ res_fsl res_esl res_agg res_tup res_fn res_junk res_anyb aPick hk imp_left iteV dstOk guardOk astep astepE AI.ev AI.look AI.put envOf aBox cellsOf allOne allOneA oneA Value.oneCell' Value.cells newObj' aFieldAddr aLoad obj readAt thenA blockA condA retA resA tupA view hot hotC hotR depthV cAgg cInt cBool mkAgg allV aAlloc aBuild fillA writeAt aStore isAggA aField idx aIndexAddr aIndex bnd aSlice aExtract aLen aBuiltin aCall isStatic eqAgg eqTy eqC ev_add ev_sub ev_mul ev_quo ev_rem ev_and ev_or ev_xor ev_andNot ev_shl ev_shr ev_eql ev_neq ev_lss ev_leq ev_gtr ev_geq ev_agg w64 wu32 wu8 ev_not ev_neg Cod.plain RCod.plain argM finM cold coldC coldR goInt intDec boolDec aggDec Weaker heapW lowA lowC Again slDec undef aBuildSlice setRows aAppend rowsOf aMakeSlice aClear aCopy softer_self softer_nil valsOf ev_min2 ev_max2 hotR_set hotR_append take_map_set irow_cold irow_mapM irow_mapMc irow_view irow_viewc irow_hotR irow_ren irow_renc irow_low WeakT heapT thOf ren renC AgainT NextF NextT fnDec cFn rNil selfLt natLt0 natLt1 getLastMap frame0 frame1 own0 own1 argG finG tau tauI tauO tauC bareA bareC bareH irow_tau irow_tauc irow_bare irow_flat irow_bareR ownA_nil ownT_nil ownA_c ownT_c ownA_s ownT_s takeMapLen footC plainA noId noIdC cloneF frame0F frame1F insertF replaceI replaceF cellDec rCell fpDec cFp rTwo deleteF allV_oA oneA_oA res_oA RunR RunE runFT footAt hotR_cat tmodN fxSz2 fxBy2 fxAg2 fxZe2 fxSl2 fxAr2 fxPl2 fxSz3 fxBy3 fxAg3 fxZe3 fxSl3 fxAr3 fxPl3 fxSz4 fxBy4 fxAg4 fxZe4 fxSl4 fxAr4 fxPl4 fxSz5 fxBy5 fxAg5 fxZe5 fxSl5 fxAr5 fxPl5 fxSz9 fxBy9 fxAg9 fxZe9 fxSl9 fxAr9 fxPl9 fxSz12 fxBy12 fxAg12 fxZe12 fxSl12 fxAr12 fxPl12 fxSz13 fxBy13 fxAg13 fxZe13 fxSl13 fxAr13 fxFi13x0 fxFi13x1 fxPl13 fxSz21 fxBy21 fxAg21 fxZe21 fxSl21 fxAr21 fxPl21 fxSz22 fxBy22 fxAg22 fxZe22 fxSl22 fxAr22 fxPl22 fxSz23 fxBy23 fxAg23 fxZe23 fxSl23 fxAr23 fxFi23x0 fxFi23x1 fxPl23 fxSz24 fxBy24 fxAg24 fxZe24 fxSl24 fxAr24 fxFi24x0 fxFi24x1 fxPl24 fxSz25 fxBy25 fxAg25 fxZe25 fxSl25 fxAr25 fxPl25 fxSz26 fxBy26 fxAg26 fxZe26 fxSl26 fxAr26 fxPl26 fxSz27 fxBy27 fxAg27 fxZe27 fxSl27 fxAr27 fxFi27x0 fxFi27x1 fxFi27x2 fxFi27x3 fxFi27x4 fxFi27x5 fxFi27x6 fxPl27 fxSz28 fxBy28 fxAg28 fxZe28 fxSl28 fxAr28 fxFi28x0 fxFi28x1 fxFi28x2 fxFi28x3 fxFi28x4 fxFi28x5 fxFi28x6 fxPl28 fxSz29 fxBy29 fxAg29 fxZe29 fxSl29 fxAr29 fxPl29 fxSz44 fxBy44 fxAg44 fxZe44 fxSl44 fxAr44 fxPl44 fxSz45 fxBy45 fxAg45 fxZe45 fxSl45 fxAr45 fxPl45 fxSz52 fxBy52 fxAg52 fxZe52 fxSl52 fxAr52 fxPl52 fxSz54 fxBy54 fxAg54 fxZe54 fxSl54 fxAr54 fxFi54x0 fxFi54x1 fxPl54 fxSz55 fxBy55 fxAg55 fxZe55 fxSl55 fxAr55 fxFi55x0 fxFi55x1 fxPl55 fxSz56 fxBy56 fxAg56 fxZe56 fxSl56 fxAr56 fxPl56 fxSz60 fxBy60 fxAg60 fxZe60 fxSl60 fxAr60 fxPl60 fxSz61 fxBy61 fxAg61 fxZe61 fxSl61 fxAr61 fxPl61 fxSz62 fxBy62 fxAg62 fxZe62 fxSl62 fxAr62 fxFi62x0 fxFi62x1 fxPl62 fxSz63 fxBy63 fxAg63 fxZe63 fxSl63 fxAr63 fxFi63x0 fxFi63x1 fxPl63 fxSz76 fxBy76 fxAg76 fxZe76 fxSl76 fxAr76 fxPl76 fxSz83 fxBy83 fxAg83 fxZe83 fxSl83 fxAr83 fxFi83x0 fxFi83x1 fxFi83x2 fxPl83 fxSz84 fxBy84 fxAg84 fxZe84 fxSl84 fxAr84 fxFi84x0 fxFi84x1 fxFi84x2 fxPl84 fxSz99 fxBy99 fxAg99 fxZe99 fxSl99 fxAr99 fxPl99 fxSz106 fxBy106 fxAg106 fxZe106 fxSl106 fxAr106 fxPl106 fxSz107 fxBy107 fxAg107 fxZe107 fxSl107 fxAr107 fxFi107x0 fxPl107 fxSz113 fxBy113 fxAg113 fxZe113 fxSl113 fxAr113 fxPl113 fxSz118 fxBy118 fxAg118 fxZe118 fxSl118 fxAr118 fxPl118 fxEq28 fxEq55 fxEq56 fxEq84 fxCv2x2 fxCv2x3 fxCv2x5 fxCv2x12 fxCv2x21 fxCv2x29 fxCv2x45 fxCv3x2 fxCv3x3 fxCv3x5 fxCv3x12 fxCv3x21 fxCv3x29 fxCv3x45 fxCv5x2 fxCv5x3 fxCv5x5 fxCv5x12 fxCv5x21 fxCv5x29 fxCv5x45 fxCv12x2 fxCv12x3 fxCv12x5 fxCv12x12 fxCv12x21 fxCv12x29 fxCv12x45 fxCv21x2 fxCv21x3 fxCv21x5 fxCv21x12 fxCv21x21 fxCv21x29 fxCv21x45 fxCv29x2 fxCv29x3 fxCv29x5 fxCv29x12 fxCv29x21 fxCv29x29 fxCv29x45 fxCv45x2 fxCv45x3 fxCv45x5 fxCv45x12 fxCv45x21 fxCv45x29 fxCv45x45 fxEb4 fxNb4 fxLt9 fxLn22 fxNe22 fxNn22 fxOe22 fxOn22 fxXe22 fxXn22 fxLn44 fxNe44 fxNn44 fxOe44 fxOn44 fxXe44 fxXn44 fxLn52 fxNe52 fxNn52 fxOe52 fxOn52 fxXe52 fxXn52 fxLn60 fxNe60 fxNn60 fxOe60 fxOn60 fxXe60 fxXn60 fxLn61 fxNe61 fxNn61 fxOe61 fxOn61 fxXe61 fxXn61 fxLn76 fxNe76 fxNn76 fxOe76 fxOn76 fxXe76 fxXn76 fxFn3 fxFm3 fxFb3 fxFi3 fxFj3 fxFn4 fxFm4 fxFb4 fxFi4 fxFj4 fxFn5 fxFm5 fxFb5 fxFi5 fxFj5 fxFn6 fxFm6 fxFb6 fxFi6 fxFj6 fxFn7 fxFm7 fxFb7 fxFi7 fxFj7 fxFn8 fxFm8 fxFb8 fxFi8 fxFj8 fxFn9 fxFm9 fxFb9 fxFi9 fxFj9 fxFn10 fxFm10 fxFb10 fxFi10 fxFj10 fxFn11 fxFm11 fxFb11 fxFi11 fxFj11 fxFn12 fxFm12 fxFb12 fxFi12 fxFj12 fxFn13 fxFm13 fxFb13 fxFi13 fxFj13 fxFn14 fxFm14 fxFb14 fxFi14 fxFj14 fxFn15 fxFm15 fxFb15 fxFi15 fxFj15 fxFn16 fxFm16 fxFb16 fxFi16 fxFj16 fxFn17 fxFm17 fxFb17 fxFi17 fxFj17 fxFn18 fxFm18 fxFb18 fxFi18 fxFj18 fxFn19 fxFm19 fxFb19 fxFi19 fxFj19 fxFn20 fxFm20 fxFb20 fxFi20 fxFj20 fxFn21 fxFm21 fxFb21 fxFi21 fxFj21 fxFn22 fxFm22 fxFb22 fxFi22 fxFj22 fxFn23 fxFm23 fxFb23 fxFi23 fxFj23 fxFn24 fxFm24 fxFb24 fxFi24 fxFj24 fxFn25 fxFm25 fxFb25 fxFi25 fxFj25 fxFn26 fxFm26 fxFb26 fxFi26 fxFj26 fxFn27 fxFm27 fxFb27 fxFi27 fxFj27 fxFn28 fxFm28 fxFb28 fxFi28 fxFj28 fxFn29 fxFm29 fxFb29 fxFi29 fxFj29 fxFn30 fxFm30 fxFb30 fxFi30 fxFj30 fxFn31 fxFm31 fxFb31 fxFi31 fxFj31 fxFn32 fxFm32 fxFb32 fxFi32 fxFj32 fxFn33 fxFm33 fxFb33 fxFi33 fxFj33 fxFn34 fxFm34 fxFb34 fxFi34 fxFj34 fxFn35 fxFm35 fxFb35 fxFi35 fxFj35 fxFn36 fxFm36 fxFb36 fxFi36 fxFj36 fxFn37 fxFm37 fxFb37 fxFi37 fxFj37 fxFn38 fxFm38 fxFb38 fxFi38 fxFj38 fxFn39 fxFm39 fxFb39 fxFi39 fxFj39 fxFn40 fxFm40 fxFb40 fxFi40 fxFj40 fxFn41 fxFm41 fxFb41 fxFi41 fxFj41 fxFn42 fxFm42 fxFb42 fxFi42 fxFj42 fxFn43 fxFm43 fxFb43 fxFi43 fxFj43 fxFn44 fxFm44 fxFb44 fxFi44 fxFj44 fxFn45 fxFm45 fxFb45 fxFi45 fxFj45 fxFn46 fxFm46 fxFb46 fxFi46 fxFj46 fxFn47 fxFm47 fxFb47 fxFi47 fxFj47 fxFn48 fxFm48 fxFb48 fxFi48 fxFj48 fxFn49 fxFm49 fxFb49 fxFi49 fxFj49 fxFn50 fxFm50 fxFb50 fxFi50 fxFj50 fxFn51 fxFm51 fxFb51 fxFi51 fxFj51 fxFn52 fxFm52 fxFb52 fxFi52 fxFj52 fxFn53 fxFm53 fxFb53 fxFi53 fxFj53 fxFn54 fxFm54 fxFb54 fxFi54 fxFj54 fxFn55 fxFm55 fxFb55 fxFi55 fxFj55 fxFn56 fxFm56 fxFb56 fxFi56 fxFj56 fxFn57 fxFm57 fxFb57 fxFi57 fxFj57 fxFn58 fxFm58 fxFb58 fxFi58 fxFj58 fxFn59 fxFm59 fxFb59 fxFi59 fxFj59 fxFn60 fxFm60 fxFb60 fxFi60 fxFj60
attribute [local simp] Ln.eta Ln.cold Ln.mapM Ln.mapMc Ln.view Ln.viewc Ln.hotR Ln.ren Ln.renc Ln.low Ln.tau Ln.tauc Ln.bare Ln.flat Ln.flat1 Ln.mapMt Ln.mapMd Ln.coldt Ln.coldd Ln.hotRt Ln.hotRd
attribute [local simp] Od.eta Od.cold Od.mapM Od.mapMc Od.view Od.viewc Od.hotR Od.ren Od.renc Od.low Od.tau Od.tauc Od.bare Od.flat Od.flat1 Od.mapMt Od.mapMd Od.coldt Od.coldd Od.hotRt Od.hotRd
attribute [local simp] Cpu.eta Cpu.dec_row Cpu.dec_hrow Cpu.cold Cpu.hcold Cpu.mapM Cpu.mapMc Cpu.hmapM Cpu.hmapMc Cpu.view Cpu.viewc Cpu.hview Cpu.hviewc Cpu.hotR Cpu.ren Cpu.renc Cpu.low Cpu.hlow
def lineGo (seen : List Ln) : List Ln → Bool
  | [] => true
  | x :: r => okSP x.space x.page && !(seen.any (·.at x.space x.page)) && lineGo (seen ++ [x]) r
def okO (o : Od) : Bool := okSP o.space (max o.page 0) && decide (-1 ≤ o.page)
def cpuE (c : Cpu) : Int := if 8 < c.lines.length ∨ 4 < c.orders.length then 2 else if (lineGo [] c.lines && c.orders.all okO) = true then 0 else 3
def tlGo : List Cpu → Int
  | [] => 0
  | c :: r => if cpuE c = 0 then tlGo r else cpuE c
def tlCheck (l : List Cpu) : Int := if l.length < 1 ∨ 4 < l.length then 1 else tlGo l
theorem tlCheck_pure : PureOk Try.prog 22 (argM (cSl rCpu) fun l => finM (some (.v (.int .i64 (tlCheck l))))) := by
  refine pure1 Try.func22 rfl ?_
  rintro l r hr
  simp only [Option.some.injEq] at hr
  subst hr
  refine body_gen (((noOrc_ok.withP newT_pure).withP tlRight_pure).withP tlFind_pure) fxMix (by kernel_rfl) (by simp [Try.ntmps22]) ?_
  intro C cP cI cN cD cF cA
  have cp0 := orcP newT_pure (C := C) (by rw [cP]; rfl)
  have cp1 := orcP tlRight_pure (C := C) (by rw [cP]; rfl)
  have cp2 := orcP tlFind_pure (C := C) (by rw [cP]; rfl)
  replace cI : C.inl = fun _ => false := cI
  replace cD : C.dyn = fun _ => [] := cD
  clear cP cN cF cA
  unfold tlCheck
  by_cases h0 : l.length < 1
  · have e : l = [] := List.length_eq_zero_iff.1 (by omega)
    subst e
    have hN : newE 0 = .v (.tuple #[.slice none 0 0, .int .i64 1]) := rfl
    simp [Try.ntmps22, Try.results22, cSl, cp0, cp1, cp2, cI, cD, rCpu, hN]
  by_cases h1 : 4 < l.length
  · have hN : newE (l.length : Int) = .v (.tuple #[.slice none 0 0, .int .i64 1]) := by unfold newE; rw [if_pos (by omega)]
    simp [Try.ntmps22, Try.results22, cSl, cp0, cp1, cp2, cI, cD, rCpu, hN, h1]
  have hN : newE (l.length : Int) = .tup [.fsl true 2 (List.replicate l.length [.v (.slice none 0 0), .v (.slice none 0 0)]), .v (.int .i64 0)] := by unfold newE; rw [if_neg (by omega)]; rfl
  rw [if_neg (by omega)]
  simp [Try.ntmps22, Try.results22, cSl, cp0, cp1, cp2, cI, cD, rCpu, hN]
  refine loop_for l.length (fun k (_ : Unit) => ([(20, .fsl false 2 (l.map Cpu.row)), (21, .v (.int .i64 l.length)), (22, .v (.int .i64 k))], [])) (fun k _ => tlGo (l.drop k) = tlGo l) () (by omega) (by simp) (by simp) ?_ ?_
  · rintro k _ hk hall hw
    rw [List.drop_eq_getElem_cons hk, tlGo] at hall
    generalize hck : l[k] = c at *
    obtain ⟨L, O⟩ := c
    by_cases b1 : 8 < L.length
    · have b1' : (8 : Int) < L.length := by omega
      have hE : cpuE ⟨L, O⟩ = 2 := by unfold cpuE; rw [if_pos (.inl b1)]
      rw [hE] at hall
      simp [Try.ntmps22, Try.results22, cSl, cp0, cp1, cp2, cI, cD, rCpu, cpuDec, Cpu.row, hk, hw, hck, b1, b1', ← hall]
      done
    have b1' : ¬ (8 : Int) < L.length := by omega
    by_cases b2 : 4 < O.length
    · have b2' : (4 : Int) < O.length := by omega
      have hE : cpuE ⟨L, O⟩ = 2 := by unfold cpuE; rw [if_pos (.inr b2)]
      rw [hE] at hall
      simp [Try.ntmps22, Try.results22, cSl, cp0, cp1, cp2, cI, cD, rCpu, cpuDec, Cpu.row, hk, hw, hck, b1, b1', b2, b2', ← hall]
      done
    have b2' : ¬ (4 : Int) < O.length := by omega
    have hE : cpuE ⟨L, O⟩ = if (lineGo [] L && O.all okO) = true then 0 else 3 := by unfold cpuE; rw [if_neg (by simp; omega)]
    rw [hE] at hall
    simp [Try.ntmps22, Try.results22, cSl, cp0, cp1, cp2, cI, cD, rCpu, cpuDec, Cpu.row, hk, hw, hck, b1, b1', b2, b2']
    refine loop_for L.length (fun i (_ : Unit) => ([(6, .ptr 0 2 0 0), (20, .fsl false 2 (l.map Cpu.row)), (21, .v (.int .i64 l.length)), (22, .v (.int .i64 k)), (37, .fsl false 3 (L.map Ln.row)), (38, .v (.int .i64 L.length)), (39, .v (.int .i64 i))], [some (2, [Cpu.row ⟨L, O⟩])])) (fun i _ => lineGo (L.take i) (L.drop i) = lineGo [] L) () (by omega) (by simp) (by simp [Cpu.row]) ?_ ?_
    · rintro i _ hi hal2 hwi
      have hil : i ≤ L.length := by omega
      have hi4 : i ≤ 4294967296 := by omega
      have hmn : min i L.length = i := by omega
      rw [List.drop_eq_getElem_cons hi, lineGo, ← List.take_succ_eq_append_getElem hi] at hal2
      by_cases c1 : okSP L[i].space L[i].page = true
      · by_cases c2 : (L.take i).any (·.at L[i].space L[i].page) = true
        · have c2' := (tlFind_iff (L.take i) _ _).2 c2
          rw [c1, c2] at hal2
          simp only [Bool.not_true, Bool.and_false, Bool.false_and] at hal2
          rw [← hal2] at hall
          simp only [Bool.false_and, Bool.false_eq_true, if_false] at hall
          simp [Try.ntmps22, Try.results22, cSl, cp0, cp1, cp2, cI, cD, rLn, lnDec, Ln.row, Cpu.row, hi, hwi, c1, c2', hil, hi4, hmn, ← hall]
          done
        · have c2' : ¬ 0 ≤ tlFind (L.take i) L[i].space L[i].page := fun h => c2 ((tlFind_iff _ _ _).1 h)
          simp only [Bool.not_eq_true] at c2
          rw [c1, c2] at hal2
          simp only [Bool.not_false, Bool.and_true, Bool.true_and] at hal2
          simp [Try.ntmps22, Try.results22, cSl, cp0, cp1, cp2, cI, cD, rLn, lnDec, Ln.row, Cpu.row, hi, hwi, c1, c2', hil, hi4, hmn]
          exact hal2
      · simp only [Bool.not_eq_true] at c1
        rw [c1] at hal2
        simp only [Bool.false_and] at hal2
        rw [← hal2] at hall
        simp only [Bool.false_and, Bool.false_eq_true, if_false] at hall
        simp [Try.ntmps22, Try.results22, cSl, cp0, cp1, cp2, cI, cD, rLn, lnDec, Ln.row, Cpu.row, hi, hwi, c1, hil, hi4, hmn, ← hall]
        done
    · rintro _ hal2
      replace hal2 : lineGo [] L = true := by rw [← hal2]; simp [lineGo]
      rw [hal2, Bool.true_and] at hall
      simp [Try.ntmps22, Try.results22, cSl, cp0, cp1, cp2, cI, cD, Cpu.row]
      refine loop_for O.length (fun i (_ : Unit) => ([(20, .fsl false 2 (l.map Cpu.row)), (21, .v (.int .i64 l.length)), (22, .v (.int .i64 k)), (64, .fsl false 2 (O.map Od.row)), (65, .v (.int .i64 O.length)), (66, .v (.int .i64 i))], [])) (fun i _ => (O.drop i).all okO = O.all okO) () (by omega) (by simp) (by simp) ?_ ?_
      · rintro i _ hi hal3 hwi
        rw [List.drop_eq_getElem_cons hi, List.all_cons] at hal3
        have hmx : (if 0 < O[i].page then O[i].page else 0) = max O[i].page 0 := by omega
        have hmx2 : (if O[i].page > 0 then O[i].page else 0) = max O[i].page 0 := by omega
        have hmx3 : (if O[i].page < 0 then 0 else O[i].page) = max O[i].page 0 := by omega
        have hmx4 : (if 0 > O[i].page then 0 else O[i].page) = max O[i].page 0 := by omega
        by_cases c1 : okSP O[i].space (max O[i].page 0) = true
        · by_cases c2 : O[i].page < -1
          · have c3 : okO O[i] = false := by unfold okO; rw [c1]; simp; omega
            rw [c3, Bool.false_and] at hal3
            rw [← hal3] at hall
            simp only [Bool.false_eq_true, if_false] at hall
            simp [Try.ntmps22, Try.results22, cSl, cp0, cp1, cp2, cI, cD, rOd, odDec, Od.row, hi, hwi, c1, c2, hmx, hmx2, hmx3, hmx4, ← hall]
            done
          · have c3 : okO O[i] = true := by unfold okO; rw [c1]; simp; omega
            rw [c3, Bool.true_and] at hal3
            simp [Try.ntmps22, Try.results22, cSl, cp0, cp1, cp2, cI, cD, rOd, odDec, Od.row, hi, hwi, c1, c2, hmx, hmx2, hmx3, hmx4]
            exact hal3
        · simp only [Bool.not_eq_true] at c1
          have c3 : okO O[i] = false := by unfold okO; rw [c1]; simp
          rw [c3, Bool.false_and] at hal3
          rw [← hal3] at hall
          simp only [Bool.false_eq_true, if_false] at hall
          simp [Try.ntmps22, Try.results22, cSl, cp0, cp1, cp2, cI, cD, rOd, odDec, Od.row, hi, hwi, c1, hmx, hmx2, hmx3, hmx4, ← hall]
          done
      · rintro _ hal3
        replace hal3 : O.all okO = true := by rw [← hal3]; simp
        rw [hal3, if_pos rfl, if_pos rfl] at hall
        simp [Try.ntmps22, Try.results22, cSl, cp0, cp1, cp2, cI, cD, hw]
        exact hall
  · rintro _ hall
    simp [tlGo] at hall
    simp [Try.ntmps22, Try.results22, cSl, cp0, cp1, cp2, cI, cD, ← hall]
    done
end Go.Proofs.Ytdhpgdfjogklaaa
namespace Go.Proofs.Ytdhpgdfjogklaaa
open Go.AI
set_option maxHeartbeats 2000000
set_option maxRecDepth 100000
set_option linter.unusedSimpArgs false
set_option linter.unusedVariables false
attribute [local simp] wpA wpX RunA RunD runF foot footP footB idsA bare apart runL step1 gsel_f gsel_t gsel_s res_same res_and1 res_and2 res_and3 res_and4 res_and5 res_and6 res_false res_true res_v res_ptr res_fptr res_osl res_xsl soft aAppendZ aCap ovlI ovlJ res_fsl res_esl res_agg res_tup res_fn res_junk res_anyb aPick hk imp_left iteV dstOk guardOk astep astepE AI.ev AI.look AI.put envOf aBox cellsOf allOne allOneA oneA Value.oneCell' Value.cells newObj' aFieldAddr aLoad obj readAt thenA blockA condA retA resA tupA view hot hotC hotR depthV cAgg cInt cBool mkAgg allV aAlloc aBuild fillA writeAt aStore isAggA aField idx aIndexAddr aIndex bnd aSlice aExtract aLen aBuiltin aCall isStatic eqAgg eqTy eqC ev_add ev_sub ev_mul ev_quo ev_rem ev_and ev_or ev_xor ev_andNot ev_shl ev_shr ev_eql ev_neq ev_lss ev_leq ev_gtr ev_geq ev_agg w64 wu32 wu8 ev_not ev_neg Cod.plain RCod.plain argM finM cold coldC coldR goInt intDec boolDec aggDec Weaker heapW lowA lowC Again slDec undef aBuildSlice setRows aAppend rowsOf aMakeSlice aClear aCopy softer_self softer_nil valsOf ev_min2 ev_max2 hotR_set hotR_append take_map_set irow_cold irow_mapM irow_mapMc irow_view irow_viewc irow_hotR irow_ren irow_renc irow_low WeakT heapT thOf ren renC AgainT NextF NextT fnDec cFn rNil selfLt natLt0 natLt1 getLastMap frame0 frame1 own0 own1 argG finG tau tauI tauO tauC bareA bareC bareH irow_tau irow_tauc irow_bare irow_flat irow_bareR ownA_nil ownT_nil ownA_c ownT_c ownA_s ownT_s takeMapLen footC plainA noId noIdC cloneF frame0F frame1F insertF replaceI replaceF cellDec rCell fpDec cFp rTwo deleteF allV_oA oneA_oA res_oA RunR RunE runFT footAt hotR_cat tmodN fxSz2 fxBy2 fxAg2 fxZe2 fxSl2 fxAr2 fxPl2 fxSz3 fxBy3 fxAg3 fxZe3 fxSl3 fxAr3 fxPl3 fxSz4 fxBy4 fxAg4 fxZe4 fxSl4 fxAr4 fxPl4 fxSz5 fxBy5 fxAg5 fxZe5 fxSl5 fxAr5 fxPl5 fxSz9 fxBy9 fxAg9 fxZe9 fxSl9 fxAr9 fxPl9 fxSz12 fxBy12 fxAg12 fxZe12 fxSl12 fxAr12 fxPl12 fxSz13 fxBy13 fxAg13 fxZe13 fxSl13 fxAr13 fxFi13x0 fxFi13x1 fxPl13 fxSz21 fxBy21 fxAg21 fxZe21 fxSl21 fxAr21 fxPl21 fxSz22 fxBy22 fxAg22 fxZe22 fxSl22 fxAr22 fxPl22 fxSz23 fxBy23 fxAg23 fxZe23 fxSl23 fxAr23 fxFi23x0 fxFi23x1 fxPl23 fxSz24 fxBy24 fxAg24 fxZe24 fxSl24 fxAr24 fxFi24x0 fxFi24x1 fxPl24 fxSz25 fxBy25 fxAg25 fxZe25 fxSl25 fxAr25 fxPl25 fxSz26 fxBy26 fxAg26 fxZe26 fxSl26 fxAr26 fxPl26 fxSz27 fxBy27 fxAg27 fxZe27 fxSl27 fxAr27 fxFi27x0 fxFi27x1 fxFi27x2 fxFi27x3 fxFi27x4 fxFi27x5 fxFi27x6 fxPl27 fxSz28 fxBy28 fxAg28 fxZe28 fxSl28 fxAr28 fxFi28x0 fxFi28x1 fxFi28x2 fxFi28x3 fxFi28x4 fxFi28x5 fxFi28x6 fxPl28 fxSz29 fxBy29 fxAg29 fxZe29 fxSl29 fxAr29 fxPl29 fxSz44 fxBy44 fxAg44 fxZe44 fxSl44 fxAr44 fxPl44 fxSz45 fxBy45 fxAg45 fxZe45 fxSl45 fxAr45 fxPl45 fxSz52 fxBy52 fxAg52 fxZe52 fxSl52 fxAr52 fxPl52 fxSz54 fxBy54 fxAg54 fxZe54 fxSl54 fxAr54 fxFi54x0 fxFi54x1 fxPl54 fxSz55 fxBy55 fxAg55 fxZe55 fxSl55 fxAr55 fxFi55x0 fxFi55x1 fxPl55 fxSz56 fxBy56 fxAg56 fxZe56 fxSl56 fxAr56 fxPl56 fxSz60 fxBy60 fxAg60 fxZe60 fxSl60 fxAr60 fxPl60 fxSz61 fxBy61 fxAg61 fxZe61 fxSl61 fxAr61 fxPl61 fxSz62 fxBy62 fxAg62 fxZe62 fxSl62 fxAr62 fxFi62x0 fxFi62x1 fxPl62 fxSz63 fxBy63 fxAg63 fxZe63 fxSl63 fxAr63 fxFi63x0 fxFi63x1 fxPl63 fxSz76 fxBy76 fxAg76 fxZe76 fxSl76 fxAr76 fxPl76 fxSz83 fxBy83 fxAg83 fxZe83 fxSl83 fxAr83 fxFi83x0 fxFi83x1 fxFi83x2 fxPl83 fxSz84 fxBy84 fxAg84 fxZe84 fxSl84 fxAr84 fxFi84x0 fxFi84x1 fxFi84x2 fxPl84 fxSz99 fxBy99 fxAg99 fxZe99 fxSl99 fxAr99 fxPl99 fxSz106 fxBy106 fxAg106 fxZe106 fxSl106 fxAr106 fxPl106 fxSz107 fxBy107 fxAg107 fxZe107 fxSl107 fxAr107 fxFi107x0 fxPl107 fxSz113 fxBy113 fxAg113 fxZe113 fxSl113 fxAr113 fxPl113 fxSz118 fxBy118 fxAg118 fxZe118 fxSl118 fxAr118 fxPl118 fxEq28 fxEq55 fxEq56 fxEq84 fxCv2x2 fxCv2x3 fxCv2x5 fxCv2x12 fxCv2x21 fxCv2x29 fxCv2x45 fxCv3x2 fxCv3x3 fxCv3x5 fxCv3x12 fxCv3x21 fxCv3x29 fxCv3x45 fxCv5x2 fxCv5x3 fxCv5x5 fxCv5x12 fxCv5x21 fxCv5x29 fxCv5x45 fxCv12x2 fxCv12x3 fxCv12x5 fxCv12x12 fxCv12x21 fxCv12x29 fxCv12x45 fxCv21x2 fxCv21x3 fxCv21x5 fxCv21x12 fxCv21x21 fxCv21x29 fxCv21x45 fxCv29x2 fxCv29x3 fxCv29x5 fxCv29x12 fxCv29x21 fxCv29x29 fxCv29x45 fxCv45x2 fxCv45x3 fxCv45x5 fxCv45x12 fxCv45x21 fxCv45x29 fxCv45x45 fxEb4 fxNb4 fxLt9 fxLn22 fxNe22 fxNn22 fxOe22 fxOn22 fxXe22 fxXn22 fxLn44 fxNe44 fxNn44 fxOe44 fxOn44 fxXe44 fxXn44 fxLn52 fxNe52 fxNn52 fxOe52 fxOn52 fxXe52 fxXn52 fxLn60 fxNe60 fxNn60 fxOe60 fxOn60 fxXe60 fxXn60 fxLn61 fxNe61 fxNn61 fxOe61 fxOn61 fxXe61 fxXn61 fxLn76 fxNe76 fxNn76 fxOe76 fxOn76 fxXe76 fxXn76 fxFn3 fxFm3 fxFb3 fxFi3 fxFj3 fxFn4 fxFm4 fxFb4 fxFi4 fxFj4 fxFn5 fxFm5 fxFb5 fxFi5 fxFj5 fxFn6 fxFm6 fxFb6 fxFi6 fxFj6 fxFn7 fxFm7 fxFb7 fxFi7 fxFj7 fxFn8 fxFm8 fxFb8 fxFi8 fxFj8 fxFn9 fxFm9 fxFb9 fxFi9 fxFj9 fxFn10 fxFm10 fxFb10 fxFi10 fxFj10 fxFn11 fxFm11 fxFb11 fxFi11 fxFj11 fxFn12 fxFm12 fxFb12 fxFi12 fxFj12 fxFn13 fxFm13 fxFb13 fxFi13 fxFj13 fxFn14 fxFm14 fxFb14 fxFi14 fxFj14 fxFn15 fxFm15 fxFb15 fxFi15 fxFj15 fxFn16 fxFm16 fxFb16 fxFi16 fxFj16 fxFn17 fxFm17 fxFb17 fxFi17 fxFj17 fxFn18 fxFm18 fxFb18 fxFi18 fxFj18 fxFn19 fxFm19 fxFb19 fxFi19 fxFj19 fxFn20 fxFm20 fxFb20 fxFi20 fxFj20 fxFn21 fxFm21 fxFb21 fxFi21 fxFj21 fxFn22 fxFm22 fxFb22 fxFi22 fxFj22 fxFn23 fxFm23 fxFb23 fxFi23 fxFj23 fxFn24 fxFm24 fxFb24 fxFi24 fxFj24 fxFn25 fxFm25 fxFb25 fxFi25 fxFj25 fxFn26 fxFm26 fxFb26 fxFi26 fxFj26 fxFn27 fxFm27 fxFb27 fxFi27 fxFj27 fxFn28 fxFm28 fxFb28 fxFi28 fxFj28 fxFn29 fxFm29 fxFb29 fxFi29 fxFj29 fxFn30 fxFm30 fxFb30 fxFi30 fxFj30 fxFn31 fxFm31 fxFb31 fxFi31 fxFj31 fxFn32 fxFm32 fxFb32 fxFi32 fxFj32 fxFn33 fxFm33 fxFb33 fxFi33 fxFj33 fxFn34 fxFm34 fxFb34 fxFi34 fxFj34 fxFn35 fxFm35 fxFb35 fxFi35 fxFj35 fxFn36 fxFm36 fxFb36 fxFi36 fxFj36 fxFn37 fxFm37 fxFb37 fxFi37 fxFj37 fxFn38 fxFm38 fxFb38 fxFi38 fxFj38 fxFn39 fxFm39 fxFb39 fxFi39 fxFj39 fxFn40 fxFm40 fxFb40 fxFi40 fxFj40 fxFn41 fxFm41 fxFb41 fxFi41 fxFj41 fxFn42 fxFm42 fxFb42 fxFi42 fxFj42 fxFn43 fxFm43 fxFb43 fxFi43 fxFj43 fxFn44 fxFm44 fxFb44 fxFi44 fxFj44 fxFn45 fxFm45 fxFb45 fxFi45 fxFj45 fxFn46 fxFm46 fxFb46 fxFi46 fxFj46 fxFn47 fxFm47 fxFb47 fxFi47 fxFj47 fxFn48 fxFm48 fxFb48 fxFi48 fxFj48 fxFn49 fxFm49 fxFb49 fxFi49 fxFj49 fxFn50 fxFm50 fxFb50 fxFi50 fxFj50 fxFn51 fxFm51 fxFb51 fxFi51 fxFj51 fxFn52 fxFm52 fxFb52 fxFi52 fxFj52 fxFn53 fxFm53 fxFb53 fxFi53 fxFj53 fxFn54 fxFm54 fxFb54 fxFi54 fxFj54 fxFn55 fxFm55 fxFb55 fxFi55 fxFj55 fxFn56 fxFm56 fxFb56 fxFi56 fxFj56 fxFn57 fxFm57 fxFb57 fxFi57 fxFj57 fxFn58 fxFm58 fxFb58 fxFi58 fxFj58 fxFn59 fxFm59 fxFb59 fxFi59 fxFj59 fxFn60 fxFm60 fxFb60 fxFi60 fxFj60
attribute [local simp] Ln.eta Ln.cold Ln.mapM Ln.mapMc Ln.view Ln.viewc Ln.hotR Ln.ren Ln.renc Ln.low Ln.tau Ln.tauc Ln.bare Ln.flat Ln.flat1 Ln.mapMt Ln.mapMd Ln.coldt Ln.coldd Ln.hotRt Ln.hotRd
attribute [local simp] Od.eta Od.cold Od.mapM Od.mapMc Od.view Od.viewc Od.hotR Od.ren Od.renc Od.low Od.tau Od.tauc Od.bare Od.flat Od.flat1 Od.mapMt Od.mapMd Od.coldt Od.coldd Od.hotRt Od.hotRd
attribute [local simp] Cpu.eta Cpu.dec_row Cpu.dec_hrow Cpu.cold Cpu.hcold Cpu.mapM Cpu.mapMc Cpu.hmapM Cpu.hmapMc Cpu.view Cpu.viewc Cpu.hview Cpu.hviewc Cpu.hotR Cpu.ren Cpu.renc Cpu.low Cpu.hlow
theorem ln_eq (a b : Ln) : a = b ↔ (a.space = b.space ∧ a.page = b.page ∧ a.word = b.word) := by cases a; cases b; simp
theorem od_eq (a b : Od) : a = b ↔ (a.space = b.space ∧ a.page = b.page) := by cases a; cases b; simp
theorem tlCheck_len {l : List Cpu} (h : tlCheck l = 0) : 1 ≤ l.length ∧ l.length ≤ 4 := by
  unfold tlCheck at h
  split at h <;> omega
theorem tlGo_mem {l : List Cpu} : tlGo l = 0 ↔ ∀ c ∈ l, cpuE c = 0 := by
  induction l with
  | nil => simp [tlGo]
  | cons c l ih =>
    simp only [tlGo, List.mem_cons, forall_eq_or_imp]
    split
    · rename_i h; simp [h, ih]
    · rename_i h; simp [h]
theorem tlCheck_iff {l : List Cpu} : tlCheck l = 0 ↔ 1 ≤ l.length ∧ l.length ≤ 4 ∧ ∀ c ∈ l, cpuE c = 0 := by
  unfold tlCheck
  rw [← tlGo_mem]
  split
  · simp; omega
  · rename_i h
    constructor
    · intro h2; exact ⟨by omega, by omega, h2⟩
    · exact fun h2 => h2.2.2
theorem cpuE_len {c : Cpu} (h : cpuE c = 0) : c.lines.length ≤ 8 ∧ c.orders.length ≤ 4 := by
  unfold cpuE at h
  split at h
  · omega
  · omega
def tlChk (l : List Cpu) (cpu : Int) : Int := if tlCheck l = 0 then (if cpu < 0 ∨ (l.length : Int) ≤ cpu then 4 else 0) else tlCheck l
theorem tlChk_iff {l : List Cpu} {cpu : Int} : tlChk l cpu = 0 ↔ tlCheck l = 0 ∧ 0 ≤ cpu ∧ cpu < l.length := by
  unfold tlChk
  split
  · rename_i h; split
    · simp; omega
    · simp [h]; omega
  · rename_i h; simp [h]
theorem tlChk_pure : PureOk Try.prog 38 (argM (cSl rCpu) fun l => argM (cInt .i64) fun cpu => finM (some (.v (.int .i64 (tlChk l cpu))))) := by
  refine pure2 Try.func38 rfl ?_
  rintro l cpu r hr
  simp only [Option.some.injEq] at hr
  subst hr
  refine body_gen (noOrc_ok.withP tlCheck_pure) fxMix (by kernel_rfl) (by simp [Try.ntmps38]) ?_
  intro C cP cI cN cD cF cA
  have cp0 := orcP tlCheck_pure (C := C) (by rw [cP]; rfl)
  replace cI : C.inl = fun _ => false := cI
  replace cD : C.dyn = fun _ => [] := cD
  clear cP cN cF cA
  unfold tlChk
  by_cases h0 : tlCheck l = 0
  · have hl := tlCheck_len h0
    by_cases h1 : cpu < 0
    · simp [Try.ntmps38, Try.results38, cSl, cp0, cI, cD, rCpu, h0, h1]
    · by_cases h2 : (l.length : Int) ≤ cpu
      · simp [Try.ntmps38, Try.results38, cSl, cp0, cI, cD, rCpu, h0, h1, h2]
      · simp [Try.ntmps38, Try.results38, cSl, cp0, cI, cD, rCpu, h0, h1, h2]
  · simp [Try.ntmps38, Try.results38, cSl, cp0, cI, cD, rCpu, h0]
def cpuAt (l : List Cpu) (cpu : Int) : Cpu := l[cpu.toNat]?.getD ⟨[], []⟩
theorem cpuAt_nat {l : List Cpu} {k : Nat} (hk : k < l.length) : cpuAt l k = l[k] := by simp [cpuAt, hk]
/-- what is known of a page among lines -/
def lkL (L : List Ln) (s p : Int) : Option Int := (L.find? (·.at s p)).map (·.word)
def lkW (L : List Ln) (s p : Int) : Int := if tlFind L s p < 0 then 0 else (L[(tlFind L s p).toNat]?.getD ⟨0, 0, 0⟩).word
def tlLookW (l : List Cpu) (cpu s p : Int) : Int := if tlChk l cpu = 0 then lkW (cpuAt l cpu).lines s p else 0
def tlLookB (l : List Cpu) (cpu s p : Int) : Bool := if tlChk l cpu = 0 then decide (0 ≤ tlFind (cpuAt l cpu).lines s p) else false
theorem tlLook_pure : PureOk Try.prog 21 (argM (cSl rCpu) fun l => argM (cInt .i64) fun cpu => argM (cInt .i64) fun s => argM (cInt .i64) fun p => finM (some (.v (.tuple #[.int .u32 (tlLookW l cpu s p), .bool (tlLookB l cpu s p), .int .i64 (tlChk l cpu)])))) := by
  refine pure4 Try.func21 rfl ?_
  rintro l cpu s p r hr
  simp only [Option.some.injEq] at hr
  subst hr
  refine body_gen ((noOrc_ok.withP tlChk_pure).withP tlFind_pure) fxMix (by kernel_rfl) (by simp [Try.ntmps21]) ?_
  intro C cP cI cN cD cF cA
  have cp0 := orcP tlChk_pure (C := C) (by rw [cP]; rfl)
  have cp1 := orcP tlFind_pure (C := C) (by rw [cP]; rfl)
  replace cI : C.inl = fun _ => false := cI
  replace cD : C.dyn = fun _ => [] := cD
  clear cP cN cF cA
  by_cases h0 : tlChk l cpu = 0
  · obtain ⟨g0, g1, g2⟩ := tlChk_iff.1 h0
    obtain ⟨k, rfl⟩ := Int.eq_ofNat_of_zero_le g1
    have hk : k < l.length := by omega
    have hL := (cpuE_len ((tlCheck_iff.1 g0).2.2 l[k] (List.getElem_mem hk))).1
    unfold tlLookW tlLookB
    rw [cpuAt_nat hk]
    simp only [h0, if_true]
    generalize hck : l[k] = c at *
    obtain ⟨L, O⟩ := c
    simp only at hL
    have hL2 : L.length ≤ 4294967296 := by omega
    by_cases h1 : tlFind L s p < 0
    · have h1' : ¬ 0 ≤ tlFind L s p := by omega
      simp [Try.ntmps21, Try.results21, cSl, cp0, cp1, cI, cD, rCpu, cpuDec, Cpu.row, rLn, h0, hk, hck, h1, h1', lkW, hL2]
    · obtain ⟨j, hj, hjl, _⟩ := idxP_some h1
      replace hj : tlFind L s p = j := hj
      have h1' : ¬ (j : Int) < 0 := by omega
      simp [Try.ntmps21, Try.results21, cSl, cp0, cp1, cI, cD, rCpu, cpuDec, Cpu.row, rLn, lnDec, Ln.row, h0, hk, hck, hj, hjl, h1', lkW, hL2]
  · unfold tlLookW tlLookB
    simp [Try.ntmps21, Try.results21, cSl, cp0, cp1, cI, cD, rCpu, h0]
def idxOd (l : List Od) (p : Od) : Int := idxP (fun x => decide (p = x)) l
theorem odIndex_pure : PureOk Try.prog 60 (argM (cSl rOd) fun l => argM (cAgg rOd) fun p => finM (if l.length ≤ 4294967296 then some (.v (.int .i64 (idxOd l p))) else none)) := by
  refine pure2 Try.func60 rfl ?_
  rintro l p r hr
  by_cases hc : l.length ≤ 4294967296
  case neg => rw [if_neg hc] at hr; cases hr
  rw [if_pos hc] at hr
  simp only [Option.some.injEq] at hr
  subst hr
  refine body_gen noOrc_ok fxMix (by kernel_rfl) (by simp [Try.ntmps60]) ?_
  intro C cP cI cN cD cF cA
  replace cI : C.inl = fun _ => false := cI
  replace cD : C.dyn = fun _ => [] := cD
  clear cP cN cF cA
  simp [Try.ntmps60, Try.results60, cSl, cI, cD, rOd, Od.row]
  refine loop_for l.length (fun k (_ : Unit) => ([(0, .fsl false 2 (l.map Od.row)), (3, .ptr 0 2 0 0), (7, .v (.int .i64 l.length)), (8, .v (.int .i64 k))], [some (2, [p.row])])) (fun k _ => ((l.drop k).findIdx? (fun x => decide (p = x))).map (· + k) = l.findIdx? (fun x => decide (p = x))) () hc (by simp) (by simp [Od.row]) ?_ ?_
  · intro k _ hk hall hw
    rw [find_drop hk] at hall
    have he := od_eq p l[k]
    by_cases q : p = l[k]
    · have q2 := he.1 q
      rw [if_pos (by simpa using q)] at hall
      simp [Try.ntmps60, Try.results60, cSl, cI, cD, hk, hw, Od.row, q2, idxOd, idxP, ← hall]
    · have q2 := fun h => q (he.2 h)
      rw [if_neg (by simpa using q)] at hall
      simp [Try.ntmps60, Try.results60, cSl, cI, cD, hk, hw, Od.row, idxOd, idxP]
      rw [if_neg q2]
      exact hall
  · intro _ hall
    simp at hall
    simp [Try.ntmps60, Try.results60, cSl, cI, cD, idxOd, idxP, ← hall]
theorem odContains_pure : PureOk Try.prog 50 (argM (cSl rOd) fun l => argM (cAgg rOd) fun p => finM (if l.length ≤ 4294967296 then some (.v (.bool (decide (p ∈ l)))) else none)) := by
  refine pure2 Try.func50 rfl ?_
  rintro l p r hr
  by_cases hc : l.length ≤ 4294967296
  case neg => rw [if_neg hc] at hr; cases hr
  rw [if_pos hc] at hr
  simp only [Option.some.injEq] at hr
  subst hr
  refine body_gen (noOrc_ok.withP odIndex_pure) fxMix (by kernel_rfl) (by simp [Try.ntmps50]) ?_
  intro C cP cI cN cD cF cA
  have cp0 := orcP odIndex_pure (C := C) (by rw [cP]; rfl)
  replace cI : C.inl = fun _ => false := cI
  replace cD : C.dyn = fun _ => [] := cD
  clear cP cN cF cA
  have he : (0 ≤ idxOd l p) ↔ p ∈ l := by
    unfold idxOd
    rw [idxP_iff]; simp
  simp [Try.ntmps50, Try.results50, cSl, cp0, cI, cD, rOd, Od.row, odDec, hc, he]
def rCapO : RCod Od := rCell (cFp rOd)
theorem done1_pure : PureOk Try.prog 49 (argM (cAgg rCpu) fun c => argM (cFp rOd) fun o => finM (if c.orders.length ≤ 4294967296 then some (.v (.bool (decide (o ∈ c.orders)))) else none)) := by
  refine pure2 Try.func49 rfl ?_
  rintro c o r hr
  by_cases hc : c.orders.length ≤ 4294967296
  case neg => rw [if_neg hc] at hr; cases hr
  rw [if_pos hc] at hr
  simp only [Option.some.injEq] at hr
  subst hr
  refine body_gen (noOrc_ok.withP odContains_pure) fxMix (by kernel_rfl) (by simp [Try.ntmps49]) ?_
  intro C cP cI cN cD cF cA
  have cp0 := orcP odContains_pure (C := C) (by rw [cP]; rfl)
  replace cI : C.inl = fun _ => false := cI
  replace cD : C.dyn = fun _ => [] := cD
  clear cP cN cF cA
  simp [Try.ntmps49, Try.results49, cSl, cp0, cI, cD, rCpu, cpuDec, Cpu.row, rOd, odDec, Od.row, hc]
end Go.Proofs.Ytdhpgdfjogklaaa
namespace Go.Proofs.Ytdhpgdfjogklaaa
open Go.AI
set_option maxHeartbeats 2000000
set_option maxRecDepth 100000
set_option linter.unusedSimpArgs false
set_option linter.unusedVariables false
attribute [local simp] wpA wpX RunA RunD runF foot footP footB idsA bare apart runL step1 gsel_f gsel_t gsel_s res_same res_and1 res_and2 res_and3 res_and4 res_and5 res_and6 res_false res_true res_v res_ptr res_fptr res_osl res_xsl soft aAppendZ aCap ovlI ovlJ res_fsl res_esl res_agg res_tup res_fn res_junk res_anyb aPick hk imp_left iteV dstOk guardOk astep astepE AI.ev AI.look AI.put envOf aBox cellsOf allOne allOneA oneA Value.oneCell' Value.cells newObj' aFieldAddr aLoad obj readAt thenA blockA condA retA resA tupA view hot hotC hotR depthV cAgg cInt cBool mkAgg allV aAlloc aBuild fillA writeAt aStore isAggA aField idx aIndexAddr aIndex bnd aSlice aExtract aLen aBuiltin aCall isStatic eqAgg eqTy eqC ev_add ev_sub ev_mul ev_quo ev_rem ev_and ev_or ev_xor ev_andNot ev_shl ev_shr ev_eql ev_neq ev_lss ev_leq ev_gtr ev_geq ev_agg w64 wu32 wu8 ev_not ev_neg Cod.plain RCod.plain argM finM cold coldC coldR goInt intDec boolDec aggDec Weaker heapW lowA lowC Again slDec undef aBuildSlice setRows aAppend rowsOf aMakeSlice aClear aCopy softer_self softer_nil valsOf ev_min2 ev_max2 hotR_set hotR_append take_map_set irow_cold irow_mapM irow_mapMc irow_view irow_viewc irow_hotR irow_ren irow_renc irow_low WeakT heapT thOf ren renC AgainT NextF NextT fnDec cFn rNil selfLt natLt0 natLt1 getLastMap frame0 frame1 own0 own1 argG finG tau tauI tauO tauC bareA bareC bareH irow_tau irow_tauc irow_bare irow_flat irow_bareR ownA_nil ownT_nil ownA_c ownT_c ownA_s ownT_s takeMapLen footC plainA noId noIdC cloneF frame0F frame1F insertF replaceI replaceF cellDec rCell fpDec cFp rTwo deleteF allV_oA oneA_oA res_oA RunR RunE runFT footAt hotR_cat tmodN fxSz2 fxBy2 fxAg2 fxZe2 fxSl2 fxAr2 fxPl2 fxSz3 fxBy3 fxAg3 fxZe3 fxSl3 fxAr3 fxPl3 fxSz4 fxBy4 fxAg4 fxZe4 fxSl4 fxAr4 fxPl4 fxSz5 fxBy5 fxAg5 fxZe5 fxSl5 fxAr5 fxPl5 fxSz9 fxBy9 fxAg9 fxZe9 fxSl9 fxAr9 fxPl9 fxSz12 fxBy12 fxAg12 fxZe12 fxSl12 fxAr12 fxPl12 fxSz13 fxBy13 fxAg13 fxZe13 fxSl13 fxAr13 fxFi13x0 fxFi13x1 fxPl13 fxSz21 fxBy21 fxAg21 fxZe21 fxSl21 fxAr21 fxPl21 fxSz22 fxBy22 fxAg22 fxZe22 fxSl22 fxAr22 fxPl22 fxSz23 fxBy23 fxAg23 fxZe23 fxSl23 fxAr23 fxFi23x0 fxFi23x1 fxPl23 fxSz24 fxBy24 fxAg24 fxZe24 fxSl24 fxAr24 fxFi24x0 fxFi24x1 fxPl24 fxSz25 fxBy25 fxAg25 fxZe25 fxSl25 fxAr25 fxPl25 fxSz26 fxBy26 fxAg26 fxZe26 fxSl26 fxAr26 fxPl26 fxSz27 fxBy27 fxAg27 fxZe27 fxSl27 fxAr27 fxFi27x0 fxFi27x1 fxFi27x2 fxFi27x3 fxFi27x4 fxFi27x5 fxFi27x6 fxPl27 fxSz28 fxBy28 fxAg28 fxZe28 fxSl28 fxAr28 fxFi28x0 fxFi28x1 fxFi28x2 fxFi28x3 fxFi28x4 fxFi28x5 fxFi28x6 fxPl28 fxSz29 fxBy29 fxAg29 fxZe29 fxSl29 fxAr29 fxPl29 fxSz44 fxBy44 fxAg44 fxZe44 fxSl44 fxAr44 fxPl44 fxSz45 fxBy45 fxAg45 fxZe45 fxSl45 fxAr45 fxPl45 fxSz52 fxBy52 fxAg52 fxZe52 fxSl52 fxAr52 fxPl52 fxSz54 fxBy54 fxAg54 fxZe54 fxSl54 fxAr54 fxFi54x0 fxFi54x1 fxPl54 fxSz55 fxBy55 fxAg55 fxZe55 fxSl55 fxAr55 fxFi55x0 fxFi55x1 fxPl55 fxSz56 fxBy56 fxAg56 fxZe56 fxSl56 fxAr56 fxPl56 fxSz60 fxBy60 fxAg60 fxZe60 fxSl60 fxAr60 fxPl60 fxSz61 fxBy61 fxAg61 fxZe61 fxSl61 fxAr61 fxPl61 fxSz62 fxBy62 fxAg62 fxZe62 fxSl62 fxAr62 fxFi62x0 fxFi62x1 fxPl62 fxSz63 fxBy63 fxAg63 fxZe63 fxSl63 fxAr63 fxFi63x0 fxFi63x1 fxPl63 fxSz76 fxBy76 fxAg76 fxZe76 fxSl76 fxAr76 fxPl76 fxSz83 fxBy83 fxAg83 fxZe83 fxSl83 fxAr83 fxFi83x0 fxFi83x1 fxFi83x2 fxPl83 fxSz84 fxBy84 fxAg84 fxZe84 fxSl84 fxAr84 fxFi84x0 fxFi84x1 fxFi84x2 fxPl84 fxSz99 fxBy99 fxAg99 fxZe99 fxSl99 fxAr99 fxPl99 fxSz106 fxBy106 fxAg106 fxZe106 fxSl106 fxAr106 fxPl106 fxSz107 fxBy107 fxAg107 fxZe107 fxSl107 fxAr107 fxFi107x0 fxPl107 fxSz113 fxBy113 fxAg113 fxZe113 fxSl113 fxAr113 fxPl113 fxSz118 fxBy118 fxAg118 fxZe118 fxSl118 fxAr118 fxPl118 fxEq28 fxEq55 fxEq56 fxEq84 fxCv2x2 fxCv2x3 fxCv2x5 fxCv2x12 fxCv2x21 fxCv2x29 fxCv2x45 fxCv3x2 fxCv3x3 fxCv3x5 fxCv3x12 fxCv3x21 fxCv3x29 fxCv3x45 fxCv5x2 fxCv5x3 fxCv5x5 fxCv5x12 fxCv5x21 fxCv5x29 fxCv5x45 fxCv12x2 fxCv12x3 fxCv12x5 fxCv12x12 fxCv12x21 fxCv12x29 fxCv12x45 fxCv21x2 fxCv21x3 fxCv21x5 fxCv21x12 fxCv21x21 fxCv21x29 fxCv21x45 fxCv29x2 fxCv29x3 fxCv29x5 fxCv29x12 fxCv29x21 fxCv29x29 fxCv29x45 fxCv45x2 fxCv45x3 fxCv45x5 fxCv45x12 fxCv45x21 fxCv45x29 fxCv45x45 fxEb4 fxNb4 fxLt9 fxLn22 fxNe22 fxNn22 fxOe22 fxOn22 fxXe22 fxXn22 fxLn44 fxNe44 fxNn44 fxOe44 fxOn44 fxXe44 fxXn44 fxLn52 fxNe52 fxNn52 fxOe52 fxOn52 fxXe52 fxXn52 fxLn60 fxNe60 fxNn60 fxOe60 fxOn60 fxXe60 fxXn60 fxLn61 fxNe61 fxNn61 fxOe61 fxOn61 fxXe61 fxXn61 fxLn76 fxNe76 fxNn76 fxOe76 fxOn76 fxXe76 fxXn76 fxFn3 fxFm3 fxFb3 fxFi3 fxFj3 fxFn4 fxFm4 fxFb4 fxFi4 fxFj4 fxFn5 fxFm5 fxFb5 fxFi5 fxFj5 fxFn6 fxFm6 fxFb6 fxFi6 fxFj6 fxFn7 fxFm7 fxFb7 fxFi7 fxFj7 fxFn8 fxFm8 fxFb8 fxFi8 fxFj8 fxFn9 fxFm9 fxFb9 fxFi9 fxFj9 fxFn10 fxFm10 fxFb10 fxFi10 fxFj10 fxFn11 fxFm11 fxFb11 fxFi11 fxFj11 fxFn12 fxFm12 fxFb12 fxFi12 fxFj12 fxFn13 fxFm13 fxFb13 fxFi13 fxFj13 fxFn14 fxFm14 fxFb14 fxFi14 fxFj14 fxFn15 fxFm15 fxFb15 fxFi15 fxFj15 fxFn16 fxFm16 fxFb16 fxFi16 fxFj16 fxFn17 fxFm17 fxFb17 fxFi17 fxFj17 fxFn18 fxFm18 fxFb18 fxFi18 fxFj18 fxFn19 fxFm19 fxFb19 fxFi19 fxFj19 fxFn20 fxFm20 fxFb20 fxFi20 fxFj20 fxFn21 fxFm21 fxFb21 fxFi21 fxFj21 fxFn22 fxFm22 fxFb22 fxFi22 fxFj22 fxFn23 fxFm23 fxFb23 fxFi23 fxFj23 fxFn24 fxFm24 fxFb24 fxFi24 fxFj24 fxFn25 fxFm25 fxFb25 fxFi25 fxFj25 fxFn26 fxFm26 fxFb26 fxFi26 fxFj26 fxFn27 fxFm27 fxFb27 fxFi27 fxFj27 fxFn28 fxFm28 fxFb28 fxFi28 fxFj28 fxFn29 fxFm29 fxFb29 fxFi29 fxFj29 fxFn30 fxFm30 fxFb30 fxFi30 fxFj30 fxFn31 fxFm31 fxFb31 fxFi31 fxFj31 fxFn32 fxFm32 fxFb32 fxFi32 fxFj32 fxFn33 fxFm33 fxFb33 fxFi33 fxFj33 fxFn34 fxFm34 fxFb34 fxFi34 fxFj34 fxFn35 fxFm35 fxFb35 fxFi35 fxFj35 fxFn36 fxFm36 fxFb36 fxFi36 fxFj36 fxFn37 fxFm37 fxFb37 fxFi37 fxFj37 fxFn38 fxFm38 fxFb38 fxFi38 fxFj38 fxFn39 fxFm39 fxFb39 fxFi39 fxFj39 fxFn40 fxFm40 fxFb40 fxFi40 fxFj40 fxFn41 fxFm41 fxFb41 fxFi41 fxFj41 fxFn42 fxFm42 fxFb42 fxFi42 fxFj42 fxFn43 fxFm43 fxFb43 fxFi43 fxFj43 fxFn44 fxFm44 fxFb44 fxFi44 fxFj44 fxFn45 fxFm45 fxFb45 fxFi45 fxFj45 fxFn46 fxFm46 fxFb46 fxFi46 fxFj46 fxFn47 fxFm47 fxFb47 fxFi47 fxFj47 fxFn48 fxFm48 fxFb48 fxFi48 fxFj48 fxFn49 fxFm49 fxFb49 fxFi49 fxFj49 fxFn50 fxFm50 fxFb50 fxFi50 fxFj50 fxFn51 fxFm51 fxFb51 fxFi51 fxFj51 fxFn52 fxFm52 fxFb52 fxFi52 fxFj52 fxFn53 fxFm53 fxFb53 fxFi53 fxFj53 fxFn54 fxFm54 fxFb54 fxFi54 fxFj54 fxFn55 fxFm55 fxFb55 fxFi55 fxFj55 fxFn56 fxFm56 fxFb56 fxFi56 fxFj56 fxFn57 fxFm57 fxFb57 fxFi57 fxFj57 fxFn58 fxFm58 fxFb58 fxFi58 fxFj58 fxFn59 fxFm59 fxFb59 fxFi59 fxFj59 fxFn60 fxFm60 fxFb60 fxFi60 fxFj60
attribute [local simp] Ln.eta Ln.cold Ln.mapM Ln.mapMc Ln.view Ln.viewc Ln.hotR Ln.ren Ln.renc Ln.low Ln.tau Ln.tauc Ln.bare Ln.flat Ln.flat1 Ln.mapMt Ln.mapMd Ln.coldt Ln.coldd Ln.hotRt Ln.hotRd
attribute [local simp] Od.eta Od.cold Od.mapM Od.mapMc Od.view Od.viewc Od.hotR Od.ren Od.renc Od.low Od.tau Od.tauc Od.bare Od.flat Od.flat1 Od.mapMt Od.mapMd Od.coldt Od.coldd Od.hotRt Od.hotRd
attribute [local simp] Cpu.eta Cpu.dec_row Cpu.dec_hrow Cpu.cold Cpu.hcold Cpu.mapM Cpu.mapMc Cpu.hmapM Cpu.hmapMc Cpu.view Cpu.viewc Cpu.hview Cpu.hviewc Cpu.hotR Cpu.ren Cpu.renc Cpu.low Cpu.hlow
theorem doneI_pure : PureOk Try.prog 59 (argM (cSl rCpu) fun l => argM (cFn 49 rCapO) fun cp => finM (if l.length ≤ 4294967296 ∧ ∀ c ∈ l, c.orders.length ≤ 4294967296 then some (.v (.int .i64 (idxP (fun c : Cpu => decide (cp ∈ c.orders)) l))) else none)) := by
  refine pure2 Try.func59 rfl ?_
  rintro l cp r hr
  by_cases hc : l.length ≤ 4294967296 ∧ ∀ c ∈ l, c.orders.length ≤ 4294967296
  case neg => rw [if_neg hc] at hr; cases hr
  rw [if_pos hc] at hr
  simp only [Option.some.injEq] at hr
  subst hr
  refine body_gen (noOrc_ok.withP done1_pure) fxMix (by kernel_rfl) (by simp [Try.ntmps59]) ?_
  intro C cP cI cN cD cF cA
  have cp0 := orcP done1_pure (C := C) (by rw [cP]; rfl)
  replace cI : C.inl = fun _ => false := cI
  replace cD : C.dyn = fun _ => [] := cD
  clear cP cN cF cA
  obtain ⟨hc, hoc⟩ := hc
  simp [Try.ntmps59, Try.results59, cSl, cp0, cI, cD, rCpu, cpuDec, Cpu.row, rCapO]
  refine loop_for l.length (fun k (_ : Unit) => ([(0, .fsl false 2 (l.map Cpu.row)), (1, .fn 49 [.fptr cp.row 0]), (7, .v (.int .i64 l.length)), (8, .v (.int .i64 k))], [])) (fun k _ => ((l.drop k).findIdx? (fun c : Cpu => decide (cp ∈ c.orders))).map (· + k) = l.findIdx? (fun c : Cpu => decide (cp ∈ c.orders))) () hc (by simp) (by simp [rCapO, rOd, Od.row]) ?_ ?_
  · intro k _ hk hall hw
    have hok := hoc l[k] (List.getElem_mem hk)
    rw [find_drop hk] at hall
    by_cases q : cp ∈ l[k].orders
    · rw [if_pos (by simpa using q)] at hall
      simp [Try.ntmps59, Try.results59, cSl, cp0, cI, cD, hk, hw, rCpu, cpuDec, Cpu.row, rLn, lnDec, rCapO, rOd, odDec, Od.row, hok, q, idxP, ← hall]
      done
    · rw [if_neg (by simpa using q)] at hall
      simp [Try.ntmps59, Try.results59, cSl, cp0, cI, cD, hk, hw, rCpu, cpuDec, Cpu.row, rLn, lnDec, rCapO, rOd, odDec, Od.row, hok, q]
      simpa using hall
  · intro _ hall
    simp at hall
    simp [Try.ntmps59, Try.results59, cSl, cp0, cI, cD, idxP, ← hall]
theorem doneC_pure : PureOk Try.prog 48 (argM (cSl rCpu) fun l => argM (cFn 49 rCapO) fun cp => finM (if l.length ≤ 4294967296 ∧ ∀ c ∈ l, c.orders.length ≤ 4294967296 then some (.v (.bool (l.any (fun c : Cpu => decide (cp ∈ c.orders))))) else none)) := by
  refine pure2 Try.func48 rfl ?_
  rintro l cp r hr
  by_cases hc : l.length ≤ 4294967296 ∧ ∀ c ∈ l, c.orders.length ≤ 4294967296
  case neg => rw [if_neg hc] at hr; cases hr
  rw [if_pos hc] at hr
  simp only [Option.some.injEq] at hr
  subst hr
  refine body_gen (noOrc_ok.withP doneI_pure) fxMix (by kernel_rfl) (by simp [Try.ntmps48]) ?_
  intro C cP cI cN cD cF cA
  have cp0 := orcP doneI_pure (C := C) (by rw [cP]; rfl)
  replace cI : C.inl = fun _ => false := cI
  replace cD : C.dyn = fun _ => [] := cD
  clear cP cN cF cA
  obtain ⟨hc, hoc⟩ := hc
  have hoc' := eq_true hoc
  simp [Try.ntmps48, Try.results48, cSl, cp0, cI, cD, hc, hoc', idxP_iff, rCpu, cpuDec, Cpu.row, rLn, lnDec, rCapO, rOd, odDec, Od.row] <;> (rw [Bool.eq_iff_iff]; simp)
def tlDoneB (l : List Cpu) (o : Od) : Bool := if tlCheck l = 0 then !(l.any (fun c : Cpu => decide (o ∈ c.orders))) else false
theorem tlDone_pure : PureOk Try.prog 27 (argM (cSl rCpu) fun l => argM (cAgg rOd) fun o => finM (some (.v (.tuple #[.bool (tlDoneB l o), .int .i64 (tlCheck l)])))) := by
  refine pure2 Try.func27 rfl ?_
  rintro l o r hr
  simp only [Option.some.injEq] at hr
  subst hr
  refine body_gen ((noOrc_ok.withP tlCheck_pure).withP doneC_pure) fxMix (by kernel_rfl) (by simp [Try.ntmps27]) ?_
  intro C cP cI cN cD cF cA
  have cp0 := orcP tlCheck_pure (C := C) (by rw [cP]; rfl)
  have cp1 := orcP doneC_pure (C := C) (by rw [cP]; rfl)
  replace cI : C.inl = fun _ => false := cI
  replace cD : C.dyn = fun _ => [] := cD
  clear cP cN cF cA
  unfold tlDoneB
  by_cases h0 : tlCheck l = 0
  · obtain ⟨g1, g2, g3⟩ := tlCheck_iff.1 h0
    have hl : l.length ≤ 4294967296 := by omega
    have ho : (∀ c ∈ l, c.orders.length ≤ 4294967296) = True := eq_true fun c h => by have := (cpuE_len (g3 c h)).2; omega
    simp [Try.ntmps27, Try.results27, cSl, cp0, cp1, cI, cD, rCpu, cpuDec, Cpu.row, rLn, lnDec, rCapO, rOd, odDec, Od.row, h0, hl, ho]
    done
  · simp [Try.ntmps27, Try.results27, cSl, cp0, cp1, cI, cD, rCpu, cpuDec, Cpu.row, rLn, lnDec, rOd, odDec, Od.row, h0]
theorem fill1_pure : PureOk Try.prog 42 (argM (cAgg rLn) fun x => argM (cFp (rI .i64)) fun a => argM (cFp (rI .i64)) fun b => finM (some (.v (.bool (x.at a b))))) := by
  refine pure3 Try.func42 rfl ?_
  rintro x a b r hr
  simp only [Option.some.injEq] at hr
  subst hr
  refine body_gen noOrc_ok fxMix (by kernel_rfl) (by simp [Try.ntmps42]) ?_
  intro C cP cI cN cD cF cA
  replace cI : C.inl = fun _ => false := cI
  replace cD : C.dyn = fun _ => [] := cD
  clear cP cN cF cA
  unfold Ln.at
  by_cases h1 : x.space = a <;> by_cases h2 : x.page = b <;> simp [Try.ntmps42, Try.results42, cSl, cI, cD, rLn, Ln.row, lnDec, rI, irow, h1, h2]
end Go.Proofs.Ytdhpgdfjogklaaa
namespace Go.Proofs.Ytdhpgdfjogklaaa
open Go.AI
set_option maxHeartbeats 2000000
set_option maxRecDepth 100000
set_option linter.unusedSimpArgs false
set_option linter.unusedVariables false
attribute [local simp] wpA wpX RunA RunD runF foot footP footB idsA bare apart runL step1 gsel_f gsel_t gsel_s res_same res_and1 res_and2 res_and3 res_and4 res_and5 res_and6 res_false res_true res_v res_ptr res_fptr res_osl res_xsl soft aAppendZ aCap ovlI ovlJ res_fsl res_esl res_agg res_tup res_fn res_junk res_anyb aPick hk imp_left iteV dstOk guardOk astep astepE AI.ev AI.look AI.put envOf aBox cellsOf allOne allOneA oneA Value.oneCell' Value.cells newObj' aFieldAddr aLoad obj readAt thenA blockA condA retA resA tupA view hot hotC hotR depthV cAgg cInt cBool mkAgg allV aAlloc aBuild fillA writeAt aStore isAggA aField idx aIndexAddr aIndex bnd aSlice aExtract aLen aBuiltin aCall isStatic eqAgg eqTy eqC ev_add ev_sub ev_mul ev_quo ev_rem ev_and ev_or ev_xor ev_andNot ev_shl ev_shr ev_eql ev_neq ev_lss ev_leq ev_gtr ev_geq ev_agg w64 wu32 wu8 ev_not ev_neg Cod.plain RCod.plain argM finM cold coldC coldR goInt intDec boolDec aggDec Weaker heapW lowA lowC Again slDec undef aBuildSlice setRows aAppend rowsOf aMakeSlice aClear aCopy softer_self softer_nil valsOf ev_min2 ev_max2 hotR_set hotR_append take_map_set irow_cold irow_mapM irow_mapMc irow_view irow_viewc irow_hotR irow_ren irow_renc irow_low WeakT heapT thOf ren renC AgainT NextF NextT fnDec cFn rNil selfLt natLt0 natLt1 getLastMap frame0 frame1 own0 own1 argG finG tau tauI tauO tauC bareA bareC bareH irow_tau irow_tauc irow_bare irow_flat irow_bareR ownA_nil ownT_nil ownA_c ownT_c ownA_s ownT_s takeMapLen footC plainA noId noIdC cloneF frame0F frame1F insertF replaceI replaceF cellDec rCell fpDec cFp rTwo deleteF allV_oA oneA_oA res_oA RunR RunE runFT footAt hotR_cat tmodN fxSz2 fxBy2 fxAg2 fxZe2 fxSl2 fxAr2 fxPl2 fxSz3 fxBy3 fxAg3 fxZe3 fxSl3 fxAr3 fxPl3 fxSz4 fxBy4 fxAg4 fxZe4 fxSl4 fxAr4 fxPl4 fxSz5 fxBy5 fxAg5 fxZe5 fxSl5 fxAr5 fxPl5 fxSz9 fxBy9 fxAg9 fxZe9 fxSl9 fxAr9 fxPl9 fxSz12 fxBy12 fxAg12 fxZe12 fxSl12 fxAr12 fxPl12 fxSz13 fxBy13 fxAg13 fxZe13 fxSl13 fxAr13 fxFi13x0 fxFi13x1 fxPl13 fxSz21 fxBy21 fxAg21 fxZe21 fxSl21 fxAr21 fxPl21 fxSz22 fxBy22 fxAg22 fxZe22 fxSl22 fxAr22 fxPl22 fxSz23 fxBy23 fxAg23 fxZe23 fxSl23 fxAr23 fxFi23x0 fxFi23x1 fxPl23 fxSz24 fxBy24 fxAg24 fxZe24 fxSl24 fxAr24 fxFi24x0 fxFi24x1 fxPl24 fxSz25 fxBy25 fxAg25 fxZe25 fxSl25 fxAr25 fxPl25 fxSz26 fxBy26 fxAg26 fxZe26 fxSl26 fxAr26 fxPl26 fxSz27 fxBy27 fxAg27 fxZe27 fxSl27 fxAr27 fxFi27x0 fxFi27x1 fxFi27x2 fxFi27x3 fxFi27x4 fxFi27x5 fxFi27x6 fxPl27 fxSz28 fxBy28 fxAg28 fxZe28 fxSl28 fxAr28 fxFi28x0 fxFi28x1 fxFi28x2 fxFi28x3 fxFi28x4 fxFi28x5 fxFi28x6 fxPl28 fxSz29 fxBy29 fxAg29 fxZe29 fxSl29 fxAr29 fxPl29 fxSz44 fxBy44 fxAg44 fxZe44 fxSl44 fxAr44 fxPl44 fxSz45 fxBy45 fxAg45 fxZe45 fxSl45 fxAr45 fxPl45 fxSz52 fxBy52 fxAg52 fxZe52 fxSl52 fxAr52 fxPl52 fxSz54 fxBy54 fxAg54 fxZe54 fxSl54 fxAr54 fxFi54x0 fxFi54x1 fxPl54 fxSz55 fxBy55 fxAg55 fxZe55 fxSl55 fxAr55 fxFi55x0 fxFi55x1 fxPl55 fxSz56 fxBy56 fxAg56 fxZe56 fxSl56 fxAr56 fxPl56 fxSz60 fxBy60 fxAg60 fxZe60 fxSl60 fxAr60 fxPl60 fxSz61 fxBy61 fxAg61 fxZe61 fxSl61 fxAr61 fxPl61 fxSz62 fxBy62 fxAg62 fxZe62 fxSl62 fxAr62 fxFi62x0 fxFi62x1 fxPl62 fxSz63 fxBy63 fxAg63 fxZe63 fxSl63 fxAr63 fxFi63x0 fxFi63x1 fxPl63 fxSz76 fxBy76 fxAg76 fxZe76 fxSl76 fxAr76 fxPl76 fxSz83 fxBy83 fxAg83 fxZe83 fxSl83 fxAr83 fxFi83x0 fxFi83x1 fxFi83x2 fxPl83 fxSz84 fxBy84 fxAg84 fxZe84 fxSl84 fxAr84 fxFi84x0 fxFi84x1 fxFi84x2 fxPl84 fxSz99 fxBy99 fxAg99 fxZe99 fxSl99 fxAr99 fxPl99 fxSz106 fxBy106 fxAg106 fxZe106 fxSl106 fxAr106 fxPl106 fxSz107 fxBy107 fxAg107 fxZe107 fxSl107 fxAr107 fxFi107x0 fxPl107 fxSz113 fxBy113 fxAg113 fxZe113 fxSl113 fxAr113 fxPl113 fxSz118 fxBy118 fxAg118 fxZe118 fxSl118 fxAr118 fxPl118 fxEq28 fxEq55 fxEq56 fxEq84 fxCv2x2 fxCv2x3 fxCv2x5 fxCv2x12 fxCv2x21 fxCv2x29 fxCv2x45 fxCv3x2 fxCv3x3 fxCv3x5 fxCv3x12 fxCv3x21 fxCv3x29 fxCv3x45 fxCv5x2 fxCv5x3 fxCv5x5 fxCv5x12 fxCv5x21 fxCv5x29 fxCv5x45 fxCv12x2 fxCv12x3 fxCv12x5 fxCv12x12 fxCv12x21 fxCv12x29 fxCv12x45 fxCv21x2 fxCv21x3 fxCv21x5 fxCv21x12 fxCv21x21 fxCv21x29 fxCv21x45 fxCv29x2 fxCv29x3 fxCv29x5 fxCv29x12 fxCv29x21 fxCv29x29 fxCv29x45 fxCv45x2 fxCv45x3 fxCv45x5 fxCv45x12 fxCv45x21 fxCv45x29 fxCv45x45 fxEb4 fxNb4 fxLt9 fxLn22 fxNe22 fxNn22 fxOe22 fxOn22 fxXe22 fxXn22 fxLn44 fxNe44 fxNn44 fxOe44 fxOn44 fxXe44 fxXn44 fxLn52 fxNe52 fxNn52 fxOe52 fxOn52 fxXe52 fxXn52 fxLn60 fxNe60 fxNn60 fxOe60 fxOn60 fxXe60 fxXn60 fxLn61 fxNe61 fxNn61 fxOe61 fxOn61 fxXe61 fxXn61 fxLn76 fxNe76 fxNn76 fxOe76 fxOn76 fxXe76 fxXn76 fxFn3 fxFm3 fxFb3 fxFi3 fxFj3 fxFn4 fxFm4 fxFb4 fxFi4 fxFj4 fxFn5 fxFm5 fxFb5 fxFi5 fxFj5 fxFn6 fxFm6 fxFb6 fxFi6 fxFj6 fxFn7 fxFm7 fxFb7 fxFi7 fxFj7 fxFn8 fxFm8 fxFb8 fxFi8 fxFj8 fxFn9 fxFm9 fxFb9 fxFi9 fxFj9 fxFn10 fxFm10 fxFb10 fxFi10 fxFj10 fxFn11 fxFm11 fxFb11 fxFi11 fxFj11 fxFn12 fxFm12 fxFb12 fxFi12 fxFj12 fxFn13 fxFm13 fxFb13 fxFi13 fxFj13 fxFn14 fxFm14 fxFb14 fxFi14 fxFj14 fxFn15 fxFm15 fxFb15 fxFi15 fxFj15 fxFn16 fxFm16 fxFb16 fxFi16 fxFj16 fxFn17 fxFm17 fxFb17 fxFi17 fxFj17 fxFn18 fxFm18 fxFb18 fxFi18 fxFj18 fxFn19 fxFm19 fxFb19 fxFi19 fxFj19 fxFn20 fxFm20 fxFb20 fxFi20 fxFj20 fxFn21 fxFm21 fxFb21 fxFi21 fxFj21 fxFn22 fxFm22 fxFb22 fxFi22 fxFj22 fxFn23 fxFm23 fxFb23 fxFi23 fxFj23 fxFn24 fxFm24 fxFb24 fxFi24 fxFj24 fxFn25 fxFm25 fxFb25 fxFi25 fxFj25 fxFn26 fxFm26 fxFb26 fxFi26 fxFj26 fxFn27 fxFm27 fxFb27 fxFi27 fxFj27 fxFn28 fxFm28 fxFb28 fxFi28 fxFj28 fxFn29 fxFm29 fxFb29 fxFi29 fxFj29 fxFn30 fxFm30 fxFb30 fxFi30 fxFj30 fxFn31 fxFm31 fxFb31 fxFi31 fxFj31 fxFn32 fxFm32 fxFb32 fxFi32 fxFj32 fxFn33 fxFm33 fxFb33 fxFi33 fxFj33 fxFn34 fxFm34 fxFb34 fxFi34 fxFj34 fxFn35 fxFm35 fxFb35 fxFi35 fxFj35 fxFn36 fxFm36 fxFb36 fxFi36 fxFj36 fxFn37 fxFm37 fxFb37 fxFi37 fxFj37 fxFn38 fxFm38 fxFb38 fxFi38 fxFj38 fxFn39 fxFm39 fxFb39 fxFi39 fxFj39 fxFn40 fxFm40 fxFb40 fxFi40 fxFj40 fxFn41 fxFm41 fxFb41 fxFi41 fxFj41 fxFn42 fxFm42 fxFb42 fxFi42 fxFj42 fxFn43 fxFm43 fxFb43 fxFi43 fxFj43 fxFn44 fxFm44 fxFb44 fxFi44 fxFj44 fxFn45 fxFm45 fxFb45 fxFi45 fxFj45 fxFn46 fxFm46 fxFb46 fxFi46 fxFj46 fxFn47 fxFm47 fxFb47 fxFi47 fxFj47 fxFn48 fxFm48 fxFb48 fxFi48 fxFj48 fxFn49 fxFm49 fxFb49 fxFi49 fxFj49 fxFn50 fxFm50 fxFb50 fxFi50 fxFj50 fxFn51 fxFm51 fxFb51 fxFi51 fxFj51 fxFn52 fxFm52 fxFb52 fxFi52 fxFj52 fxFn53 fxFm53 fxFb53 fxFi53 fxFj53 fxFn54 fxFm54 fxFb54 fxFi54 fxFj54 fxFn55 fxFm55 fxFb55 fxFi55 fxFj55 fxFn56 fxFm56 fxFb56 fxFi56 fxFj56 fxFn57 fxFm57 fxFb57 fxFi57 fxFj57 fxFn58 fxFm58 fxFb58 fxFi58 fxFj58 fxFn59 fxFm59 fxFb59 fxFi59 fxFj59 fxFn60 fxFm60 fxFb60 fxFi60 fxFj60
attribute [local simp] Ln.eta Ln.cold Ln.mapM Ln.mapMc Ln.view Ln.viewc Ln.hotR Ln.ren Ln.renc Ln.low Ln.tau Ln.tauc Ln.bare Ln.flat Ln.flat1 Ln.mapMt Ln.mapMd Ln.coldt Ln.coldd Ln.hotRt Ln.hotRd
attribute [local simp] Od.eta Od.cold Od.mapM Od.mapMc Od.view Od.viewc Od.hotR Od.ren Od.renc Od.low Od.tau Od.tauc Od.bare Od.flat Od.flat1 Od.mapMt Od.mapMd Od.coldt Od.coldd Od.hotRt Od.hotRd
attribute [local simp] Cpu.eta Cpu.dec_row Cpu.dec_hrow Cpu.cold Cpu.hcold Cpu.mapM Cpu.mapMc Cpu.hmapM Cpu.hmapMc Cpu.view Cpu.viewc Cpu.hview Cpu.hviewc Cpu.hotR Cpu.ren Cpu.renc Cpu.low Cpu.hlow
theorem fillI_pure : PureOk Try.prog 55 (argM (cSl rLn) fun l => argM (cFn 42 rCapL) fun cp => finM (if l.length ≤ 4294967296 then some (.v (.int .i64 (idxP ((fun x => x.at cp.1 cp.2)) l))) else none)) := by
  refine pure2 Try.func55 rfl ?_
  rintro l cp r hr
  by_cases hc : l.length ≤ 4294967296
  case neg => rw [if_neg hc] at hr; cases hr
  rw [if_pos hc] at hr
  simp only [Option.some.injEq] at hr
  subst hr
  refine body_gen (noOrc_ok.withP fill1_pure) fxMix (by kernel_rfl) (by simp [Try.ntmps55]) ?_
  intro C cP cI cN cD cF cA
  have cp0 := orcP fill1_pure (C := C) (by rw [cP]; rfl)
  replace cI : C.inl = fun _ => false := cI
  replace cD : C.dyn = fun _ => [] := cD
  clear cP cN cF cA
  simp [Try.ntmps55, Try.results55, cSl, cp0, cI, cD, rLn, Ln.row, lnDec, rCapL, rI, irow, irowDec]
  refine loop_for l.length (fun k (_ : Unit) => ([(0, .fsl false 3 (l.map Ln.row)), (1, .fn 42 [.fptr (irow .i64 cp.1) 0, .fptr (irow .i64 cp.2) 0]), (7, .v (.int .i64 l.length)), (8, .v (.int .i64 k))], [])) (fun k _ => ((l.drop k).findIdx? ((fun x => x.at cp.1 cp.2))).map (· + k) = l.findIdx? ((fun x => x.at cp.1 cp.2))) () hc (by simp) (by simp [rLn, Ln.row, lnDec, rCapL, rI, irow, irowDec]) ?_ ?_
  · intro k _ hk hall hw
    by_cases q : ((fun x => x.at cp.1 cp.2)) l[k] = true
    · rw [find_drop hk, if_pos q] at hall
      try simp at q
      simp [Try.ntmps55, Try.results55, cSl, cp0, cI, cD, hk, hw, rLn, Ln.row, lnDec, rCapL, rI, irow, irowDec, q, idxP, ← hall]
    · rw [find_drop hk, if_neg q] at hall
      try simp at q
      simp [Try.ntmps55, Try.results55, cSl, cp0, cI, cD, hk, hw, rLn, Ln.row, lnDec, rCapL, rI, irow, irowDec, q]
      simpa using hall
  · intro _ hall
    simp at hall
    simp [Try.ntmps55, Try.results55, cSl, cp0, cI, cD, idxP, ← hall]
theorem fillDelNm : (Try.f42.name = "runtime.NumGoroutine") = False := eq_false (beq_eq_false_iff_ne.1 fxFm42)
theorem fillDel : InlOk Try.prog 41 (own1 rLn (argG (cFn 42 rCapL) fun cp => finG (if True then some ((.esl, [])) else none)) (fun l => argG (cFn 42 rCapL) fun cp => finG (if l.length ≤ 1048576 then some ((.osl 0 3 0 (l.filter (fun x => !((fun x => x.at cp.1 cp.2) x))).length l.length, [some (3, (l.filter (fun x => !((fun x => x.at cp.1 cp.2) x))).map Ln.row ++ List.replicate (l.length - (l.filter (fun x => !((fun x => x.at cp.1 cp.2) x))).length) [.v (.int .i64 0), .v (.int .i64 0), .v (.int .u32 0)])])) else none))) := by
  refine own1_1 Ln.exact Try.func41 rfl ?_ ?_
  · rintro cp r H' hr
    by_cases hc : True
    case neg => rw [if_neg hc] at hr; cases hr
    rw [if_pos hc] at hr
    simp only [Option.some.injEq, Prod.mk.injEq] at hr
    obtain ⟨rfl, rfl⟩ := hr
    refine bodyI_of ((noOrc_ok.withP fill1_pure).withP fillI_pure) fxMix (by kernel_rfl) (by simp [Try.ntmps41]) ?_
    intro C cP cI cN cD cF cA
    have cp0 := orcP fill1_pure (C := C) (by rw [cP]; rfl)
    have cp1 := orcP fillI_pure (C := C) (by rw [cP]; rfl)
    replace cI : C.inl = fun _ => false := cI
    replace cD : C.dyn = fun _ => [] := cD
    clear cP cN cF cA
    simp [Try.ntmps41, Try.results41, cSl, cp0, cp1, cI, cD, idxP, rLn, Ln.row, lnDec, rCapL, rI, irow, irowDec]
  · rintro l cp r H' hne hr
    by_cases hc : l.length ≤ 1048576
    case neg => rw [if_neg hc] at hr; cases hr
    rw [if_pos hc] at hr
    simp only [Option.some.injEq, Prod.mk.injEq] at hr
    obtain ⟨rfl, rfl⟩ := hr
    refine bodyI_of ((noOrc_ok.withP fill1_pure).withP fillI_pure) fxMix (by kernel_rfl) (by simp [Try.ntmps41]) ?_
    intro C cP cI cN cD cF cA
    have cp0 := orcP fill1_pure (C := C) (by rw [cP]; rfl)
    have cp1 := orcP fillI_pure (C := C) (by rw [cP]; rfl)
    replace cI : C.inl = fun _ => false := cI
    replace cD : C.dyn = fun _ => [] := cD
    clear cP cN cF cA
    by_cases h1 : idxP ((fun x => x.at cp.1 cp.2)) l < 0
    · have hall := idxP_none h1
      have hf : l.filter (fun x => !((fun x => x.at cp.1 cp.2) x)) = l := by
        rw [List.filter_eq_self]
        intro x hx
        simp [hall x hx]
      have hi : idxP ((fun x => x.at cp.1 cp.2)) l = -1 := by
        have hh : ∀ z : Int, z < 0 → -1 ≤ z → z = -1 := by omega
        refine hh _ h1 ?_
        unfold idxP; split <;> omega
      have hl2 : l.length ≤ 4294967296 := by omega
      rw [hf]
      simp [Try.ntmps41, Try.results41, cSl, cp0, cp1, cI, cD, hi, hl2, rLn, Ln.row, lnDec, rCapL, rI, irow, irowDec]
      exact ⟨[], by simp⟩
    · obtain ⟨i0, hi, hi0, hp0, hb0⟩ := idxP_some h1
      have hl2 : l.length ≤ 4294967296 := by omega
      have hi1 : ¬ ((i0 : Int) = -1) := by omega
      have hw0 : IntKind.i64.wrap ((i0 : Int) + 1) = ((i0 + 1 : Nat) : Int) := by rw [w64 (by omega) (by omega)]; simp
      have hne1 : ¬ l = [] := hne
      have hpos : 0 < l.length := List.length_pos_iff.2 hne
      have hstart : (l.take (i0 + 1)).filter (fun x => !((fun x => x.at cp.1 cp.2) x)) = l.take i0 := by
        rw [List.take_succ_eq_append_getElem hi0, List.filter_append]
        have e1 : (l.take i0).filter (fun x => !((fun x => x.at cp.1 cp.2) x)) = l.take i0 := by
          rw [List.filter_eq_self]
          intro x hx
          obtain ⟨j, hj, rfl⟩ := List.mem_iff_getElem.1 hx
          simp at hj
          have := hb0 j (by omega)
          simp [this]
        rw [e1]
        simp [hp0]
      simp [Try.ntmps41, Try.results41, cSl, cp0, cp1, cI, cD, hi, hi1, hl2, hw0, rLn, Ln.row, lnDec, rCapL, rI, irow, irowDec]
      refine loop_inv (σ := {j : Nat // i0 < j ∧ j ≤ l.length}) (fun q => ([(0, .osl 0 3 0 l.length l.length), (1, .fn 42 [.fptr (irow .i64 cp.1) 0, .fptr (irow .i64 cp.2) 0]), (5, .v (.int .i64 ((l.take q.val).filter (fun x => !((fun x => x.at cp.1 cp.2) x))).length)), (6, .v (.int .i64 q.val))], [some (3, ((l.take q.val).filter (fun x => !((fun x => x.at cp.1 cp.2) x)) ++ l.drop ((l.take q.val).filter (fun x => !((fun x => x.at cp.1 cp.2) x))).length).map Ln.row)])) (fun q => l.length - q.val) ⟨i0 + 1, by omega, by omega⟩ ?_ ?_
      · have hm : min i0 l.length = i0 := by omega
        simp [hstart, hm, rLn, Ln.row, lnDec, rCapL, rI, irow, irowDec]
      rintro ⟨j, hj1, hj2⟩
      have hsub : ((l.take j).filter (fun x => !((fun x => x.at cp.1 cp.2) x))).length ≤ j := by
        have := (List.filter_sublist (l := l.take j) (p := fun x => !((fun x => x.at cp.1 cp.2) x))).length_le
        rw [List.length_take] at this; omega
      have hlow : ∀ (k n : Nat) (x : Row), x ∈ List.drop k (l.map Ln.row) → ∀ a ∈ x, lowA n a = true := by
        intro k n x hx
        obtain ⟨y, _, rfl⟩ := List.mem_map.1 (List.mem_of_mem_drop hx)
        exact List.all_eq_true.1 (Ln.low n y)
      have hnx : ∀ (hj : j < l.length), (l.take (j + 1)).filter (fun x => !((fun x => x.at cp.1 cp.2) x)) = (l.take j).filter (fun x => !((fun x => x.at cp.1 cp.2) x)) ++ (if (fun x => x.at cp.1 cp.2) l[j] = true then [] else [l[j]]) := by
        intro hj
        rw [List.take_succ_eq_append_getElem hj, List.filter_append]
        by_cases q : (fun x => x.at cp.1 cp.2) l[j] = true
        · simp [q]
        · simp [q]
      generalize hF : (l.take j).filter (fun x => !((fun x => x.at cp.1 cp.2) x)) = F at *
      have hwj : IntKind.i64.wrap ((j : Int) + 1) = ((j + 1 : Nat) : Int) := by rw [w64 (by omega) (by omega)]; simp
      have hwF : IntKind.i64.wrap ((F.length : Int) + 1) = ((F.length + 1 : Nat) : Int) := by rw [w64 (by omega) (by omega)]; simp
      have hFl : F.length ≤ l.length := by omega
      have hlen : F.length + (l.length - F.length) = l.length := by omega
      have hlen2 : (F ++ l.drop F.length).length = l.length := by simp; omega
      rcases Nat.lt_or_ge j l.length with hj | hj
      · replace hnx := hnx hj
        have hget : (F ++ l.drop F.length)[j]? = some l[j] := by
          rw [List.getElem?_append_right (by omega), List.getElem?_drop, show F.length + (j - F.length) = j by omega, List.getElem?_eq_getElem hj]
        by_cases q : (fun x => x.at cp.1 cp.2) l[j] = true
        · simp only [q, if_true, List.append_nil] at hnx
          have hlr : ((F ++ l.drop F.length).map Ln.row).length = l.length := by simpa using hlen2
          have hgr : ((F ++ l.drop F.length).map Ln.row)[j]? = some (Ln.row l[j]) := by simp only [List.getElem?_map, hget, Option.map_some]
          generalize hX : (F ++ l.drop F.length).map Ln.row = X at *
          have hgj : ∀ (h : j < X.length), X[j] = Ln.row l[j] := by
            intro h; rw [List.getElem?_eq_getElem h] at hgr; exact Option.some.inj hgr
          simp [Try.ntmps41, Try.results41, cSl, cp0, cp1, cI, cD, hj, hwj, hlr, hgr, hgj, q, fillDelNm, rLn, Ln.row, lnDec, rCapL, rI, irow, irowDec]
          refine ⟨j + 1, ?_⟩
          simp [hnx, ← hX]
          exact ⟨by omega, ⟨by omega, by omega⟩, hlow _ _⟩
        · simp only [q, if_false, Bool.false_eq_true] at hnx
          have hlr : ((F ++ l.drop F.length).map Ln.row).length = l.length := by simpa using hlen2
          have hgr : ((F ++ l.drop F.length).map Ln.row)[j]? = some (Ln.row l[j]) := by simp only [List.getElem?_map, hget, Option.map_some]
          have hFj : F.length < l.length := by omega
          have hset : ((F ++ l.drop F.length).map Ln.row).set F.length (Ln.row l[j]) = ((F ++ [l[j]]) ++ l.drop (F.length + 1)).map Ln.row := by
            rw [List.drop_eq_getElem_cons hFj, List.map_append, List.set_append_right _ _ (by simp)]
            simp only [List.length_map, Nat.sub_self, List.map_cons, List.set_cons_zero, List.map_append, List.map_nil, List.append_assoc, List.cons_append, List.nil_append]
          have hgF0 : ((F ++ l.drop F.length).map Ln.row)[F.length]? = some (Ln.row l[F.length]) := by
            rw [List.getElem?_map, List.getElem?_append_right (by omega), List.getElem?_drop, Nat.sub_self, Nat.add_zero, List.getElem?_eq_getElem hFj]; rfl
          generalize hX : (F ++ l.drop F.length).map Ln.row = X at *
          have hgj : ∀ (h : j < X.length), X[j] = Ln.row l[j] := by
            intro h; rw [List.getElem?_eq_getElem h] at hgr; exact Option.some.inj hgr
          simp only [Bool.not_eq_true] at q
          have hgF : ∀ (h : F.length < X.length), X[F.length] = Ln.row l[F.length] := by
            intro h; rw [List.getElem?_eq_getElem h] at hgF0; exact Option.some.inj hgF0
          simp [Try.ntmps41, Try.results41, cSl, cp0, cp1, cI, cD, hj, hwj, hwF, hFj, hlr, hgr, hgj, hgF, q, fillDelNm, rLn, Ln.row, lnDec, rCapL, rI, irow, irowDec]
          refine ⟨j + 1, by omega, ?_⟩
          simp [hnx]
          refine ⟨?_, ⟨by omega, by omega⟩, hlow _ _⟩
          refine Eq.trans ?_ hset.symm
          simp [rLn, Ln.row, lnDec, rCapL, rI, irow, irowDec]
      · have hje : j = l.length := by omega
        subst hje
        rw [List.take_length] at hF
        rw [hF]
        simp [Try.ntmps41, Try.results41, cSl, cp0, cp1, cI, cD, fillDelNm, hFl, hlen, rLn, Ln.row, lnDec, rCapL, rI, irow, irowDec]
        exact ⟨[], by simp⟩
def Ln.hit (x : Ln) (o : Od) : Bool := decide (x.space = o.space ∧ (o.page < 0 ∨ x.page = o.page))
theorem forget1_pure : PureOk Try.prog 57 (argM (cAgg rLn) fun x => argM (cFp rOd) fun o => finM (some (.v (.bool (x.hit o))))) := by
  refine pure2 Try.func57 rfl ?_
  rintro x o r hr
  simp only [Option.some.injEq] at hr
  subst hr
  refine body_gen noOrc_ok fxMix (by kernel_rfl) (by simp [Try.ntmps57]) ?_
  intro C cP cI cN cD cF cA
  replace cI : C.inl = fun _ => false := cI
  replace cD : C.dyn = fun _ => [] := cD
  clear cP cN cF cA
  unfold Ln.hit
  by_cases h1 : x.space = o.space <;> by_cases h2 : o.page < 0 <;> by_cases h3 : x.page = o.page <;> simp [Try.ntmps57, Try.results57, cSl, cI, cD, rLn, Ln.row, lnDec, rOd, odDec, Od.row, h1, h2, h3]
theorem forgetI_pure : PureOk Try.prog 55 (argM (cSl rLn) fun l => argM (cFn 57 rCapO) fun cp => finM (if l.length ≤ 4294967296 then some (.v (.int .i64 (idxP ((fun x => x.hit cp)) l))) else none)) := by
  refine pure2 Try.func55 rfl ?_
  rintro l cp r hr
  by_cases hc : l.length ≤ 4294967296
  case neg => rw [if_neg hc] at hr; cases hr
  rw [if_pos hc] at hr
  simp only [Option.some.injEq] at hr
  subst hr
  refine body_gen (noOrc_ok.withP forget1_pure) fxMix (by kernel_rfl) (by simp [Try.ntmps55]) ?_
  intro C cP cI cN cD cF cA
  have cp0 := orcP forget1_pure (C := C) (by rw [cP]; rfl)
  replace cI : C.inl = fun _ => false := cI
  replace cD : C.dyn = fun _ => [] := cD
  clear cP cN cF cA
  simp [Try.ntmps55, Try.results55, cSl, cp0, cI, cD, rLn, Ln.row, lnDec, rCapO, rOd, odDec, Od.row]
  refine loop_for l.length (fun k (_ : Unit) => ([(0, .fsl false 3 (l.map Ln.row)), (1, .fn 57 [.fptr cp.row 0]), (7, .v (.int .i64 l.length)), (8, .v (.int .i64 k))], [])) (fun k _ => ((l.drop k).findIdx? ((fun x => x.hit cp))).map (· + k) = l.findIdx? ((fun x => x.hit cp))) () hc (by simp) (by simp [rLn, Ln.row, lnDec, rCapO, rOd, odDec, Od.row]) ?_ ?_
  · intro k _ hk hall hw
    by_cases q : ((fun x => x.hit cp)) l[k] = true
    · rw [find_drop hk, if_pos q] at hall
      try simp at q
      simp [Try.ntmps55, Try.results55, cSl, cp0, cI, cD, hk, hw, rLn, Ln.row, lnDec, rCapO, rOd, odDec, Od.row, q, idxP, ← hall]
    · rw [find_drop hk, if_neg q] at hall
      try simp at q
      simp [Try.ntmps55, Try.results55, cSl, cp0, cI, cD, hk, hw, rLn, Ln.row, lnDec, rCapO, rOd, odDec, Od.row, q]
      simpa using hall
  · intro _ hall
    simp at hall
    simp [Try.ntmps55, Try.results55, cSl, cp0, cI, cD, idxP, ← hall]
theorem forgetDelNm : (Try.f57.name = "runtime.NumGoroutine") = False := eq_false (beq_eq_false_iff_ne.1 fxFm57)
theorem forgetDel : InlOk Try.prog 41 (own1 rLn (argG (cFn 57 rCapO) fun cp => finG (if True then some ((.esl, [])) else none)) (fun l => argG (cFn 57 rCapO) fun cp => finG (if l.length ≤ 1048576 then some ((.osl 0 3 0 (l.filter (fun x => !((fun x => x.hit cp) x))).length l.length, [some (3, (l.filter (fun x => !((fun x => x.hit cp) x))).map Ln.row ++ List.replicate (l.length - (l.filter (fun x => !((fun x => x.hit cp) x))).length) [.v (.int .i64 0), .v (.int .i64 0), .v (.int .u32 0)])])) else none))) := by
  refine own1_1 Ln.exact Try.func41 rfl ?_ ?_
  · rintro cp r H' hr
    by_cases hc : True
    case neg => rw [if_neg hc] at hr; cases hr
    rw [if_pos hc] at hr
    simp only [Option.some.injEq, Prod.mk.injEq] at hr
    obtain ⟨rfl, rfl⟩ := hr
    refine bodyI_of ((noOrc_ok.withP forget1_pure).withP forgetI_pure) fxMix (by kernel_rfl) (by simp [Try.ntmps41]) ?_
    intro C cP cI cN cD cF cA
    have cp0 := orcP forget1_pure (C := C) (by rw [cP]; rfl)
    have cp1 := orcP forgetI_pure (C := C) (by rw [cP]; rfl)
    replace cI : C.inl = fun _ => false := cI
    replace cD : C.dyn = fun _ => [] := cD
    clear cP cN cF cA
    simp [Try.ntmps41, Try.results41, cSl, cp0, cp1, cI, cD, idxP, rLn, Ln.row, lnDec, rCapO, rOd, odDec, Od.row]
  · rintro l cp r H' hne hr
    by_cases hc : l.length ≤ 1048576
    case neg => rw [if_neg hc] at hr; cases hr
    rw [if_pos hc] at hr
    simp only [Option.some.injEq, Prod.mk.injEq] at hr
    obtain ⟨rfl, rfl⟩ := hr
    refine bodyI_of ((noOrc_ok.withP forget1_pure).withP forgetI_pure) fxMix (by kernel_rfl) (by simp [Try.ntmps41]) ?_
    intro C cP cI cN cD cF cA
    have cp0 := orcP forget1_pure (C := C) (by rw [cP]; rfl)
    have cp1 := orcP forgetI_pure (C := C) (by rw [cP]; rfl)
    replace cI : C.inl = fun _ => false := cI
    replace cD : C.dyn = fun _ => [] := cD
    clear cP cN cF cA
    by_cases h1 : idxP ((fun x => x.hit cp)) l < 0
    · have hall := idxP_none h1
      have hf : l.filter (fun x => !((fun x => x.hit cp) x)) = l := by
        rw [List.filter_eq_self]
        intro x hx
        simp [hall x hx]
      have hi : idxP ((fun x => x.hit cp)) l = -1 := by
        have hh : ∀ z : Int, z < 0 → -1 ≤ z → z = -1 := by omega
        refine hh _ h1 ?_
        unfold idxP; split <;> omega
      have hl2 : l.length ≤ 4294967296 := by omega
      rw [hf]
      simp [Try.ntmps41, Try.results41, cSl, cp0, cp1, cI, cD, hi, hl2, rLn, Ln.row, lnDec, rCapO, rOd, odDec, Od.row]
      exact ⟨[], by simp⟩
    · obtain ⟨i0, hi, hi0, hp0, hb0⟩ := idxP_some h1
      have hl2 : l.length ≤ 4294967296 := by omega
      have hi1 : ¬ ((i0 : Int) = -1) := by omega
      have hw0 : IntKind.i64.wrap ((i0 : Int) + 1) = ((i0 + 1 : Nat) : Int) := by rw [w64 (by omega) (by omega)]; simp
      have hne1 : ¬ l = [] := hne
      have hpos : 0 < l.length := List.length_pos_iff.2 hne
      have hstart : (l.take (i0 + 1)).filter (fun x => !((fun x => x.hit cp) x)) = l.take i0 := by
        rw [List.take_succ_eq_append_getElem hi0, List.filter_append]
        have e1 : (l.take i0).filter (fun x => !((fun x => x.hit cp) x)) = l.take i0 := by
          rw [List.filter_eq_self]
          intro x hx
          obtain ⟨j, hj, rfl⟩ := List.mem_iff_getElem.1 hx
          simp at hj
          have := hb0 j (by omega)
          simp [this]
        rw [e1]
        simp [hp0]
      simp [Try.ntmps41, Try.results41, cSl, cp0, cp1, cI, cD, hi, hi1, hl2, hw0, rLn, Ln.row, lnDec, rCapO, rOd, odDec, Od.row]
      refine loop_inv (σ := {j : Nat // i0 < j ∧ j ≤ l.length}) (fun q => ([(0, .osl 0 3 0 l.length l.length), (1, .fn 57 [.fptr cp.row 0]), (5, .v (.int .i64 ((l.take q.val).filter (fun x => !((fun x => x.hit cp) x))).length)), (6, .v (.int .i64 q.val))], [some (3, ((l.take q.val).filter (fun x => !((fun x => x.hit cp) x)) ++ l.drop ((l.take q.val).filter (fun x => !((fun x => x.hit cp) x))).length).map Ln.row)])) (fun q => l.length - q.val) ⟨i0 + 1, by omega, by omega⟩ ?_ ?_
      · have hm : min i0 l.length = i0 := by omega
        simp [hstart, hm, rLn, Ln.row, lnDec, rCapO, rOd, odDec, Od.row]
      rintro ⟨j, hj1, hj2⟩
      have hsub : ((l.take j).filter (fun x => !((fun x => x.hit cp) x))).length ≤ j := by
        have := (List.filter_sublist (l := l.take j) (p := fun x => !((fun x => x.hit cp) x))).length_le
        rw [List.length_take] at this; omega
      have hlow : ∀ (k n : Nat) (x : Row), x ∈ List.drop k (l.map Ln.row) → ∀ a ∈ x, lowA n a = true := by
        intro k n x hx
        obtain ⟨y, _, rfl⟩ := List.mem_map.1 (List.mem_of_mem_drop hx)
        exact List.all_eq_true.1 (Ln.low n y)
      have hnx : ∀ (hj : j < l.length), (l.take (j + 1)).filter (fun x => !((fun x => x.hit cp) x)) = (l.take j).filter (fun x => !((fun x => x.hit cp) x)) ++ (if (fun x => x.hit cp) l[j] = true then [] else [l[j]]) := by
        intro hj
        rw [List.take_succ_eq_append_getElem hj, List.filter_append]
        by_cases q : (fun x => x.hit cp) l[j] = true
        · simp [q]
        · simp [q]
      generalize hF : (l.take j).filter (fun x => !((fun x => x.hit cp) x)) = F at *
      have hwj : IntKind.i64.wrap ((j : Int) + 1) = ((j + 1 : Nat) : Int) := by rw [w64 (by omega) (by omega)]; simp
      have hwF : IntKind.i64.wrap ((F.length : Int) + 1) = ((F.length + 1 : Nat) : Int) := by rw [w64 (by omega) (by omega)]; simp
      have hFl : F.length ≤ l.length := by omega
      have hlen : F.length + (l.length - F.length) = l.length := by omega
      have hlen2 : (F ++ l.drop F.length).length = l.length := by simp; omega
      rcases Nat.lt_or_ge j l.length with hj | hj
      · replace hnx := hnx hj
        have hget : (F ++ l.drop F.length)[j]? = some l[j] := by
          rw [List.getElem?_append_right (by omega), List.getElem?_drop, show F.length + (j - F.length) = j by omega, List.getElem?_eq_getElem hj]
        by_cases q : (fun x => x.hit cp) l[j] = true
        · simp only [q, if_true, List.append_nil] at hnx
          have hlr : ((F ++ l.drop F.length).map Ln.row).length = l.length := by simpa using hlen2
          have hgr : ((F ++ l.drop F.length).map Ln.row)[j]? = some (Ln.row l[j]) := by simp only [List.getElem?_map, hget, Option.map_some]
          generalize hX : (F ++ l.drop F.length).map Ln.row = X at *
          have hgj : ∀ (h : j < X.length), X[j] = Ln.row l[j] := by
            intro h; rw [List.getElem?_eq_getElem h] at hgr; exact Option.some.inj hgr
          simp [Try.ntmps41, Try.results41, cSl, cp0, cp1, cI, cD, hj, hwj, hlr, hgr, hgj, q, forgetDelNm, rLn, Ln.row, lnDec, rCapO, rOd, odDec, Od.row]
          refine ⟨j + 1, ?_⟩
          simp [hnx, ← hX]
          exact ⟨by omega, ⟨by omega, by omega⟩, hlow _ _⟩
        · simp only [q, if_false, Bool.false_eq_true] at hnx
          have hlr : ((F ++ l.drop F.length).map Ln.row).length = l.length := by simpa using hlen2
          have hgr : ((F ++ l.drop F.length).map Ln.row)[j]? = some (Ln.row l[j]) := by simp only [List.getElem?_map, hget, Option.map_some]
          have hFj : F.length < l.length := by omega
          have hset : ((F ++ l.drop F.length).map Ln.row).set F.length (Ln.row l[j]) = ((F ++ [l[j]]) ++ l.drop (F.length + 1)).map Ln.row := by
            rw [List.drop_eq_getElem_cons hFj, List.map_append, List.set_append_right _ _ (by simp)]
            simp only [List.length_map, Nat.sub_self, List.map_cons, List.set_cons_zero, List.map_append, List.map_nil, List.append_assoc, List.cons_append, List.nil_append]
          have hgF0 : ((F ++ l.drop F.length).map Ln.row)[F.length]? = some (Ln.row l[F.length]) := by
            rw [List.getElem?_map, List.getElem?_append_right (by omega), List.getElem?_drop, Nat.sub_self, Nat.add_zero, List.getElem?_eq_getElem hFj]; rfl
          generalize hX : (F ++ l.drop F.length).map Ln.row = X at *
          have hgj : ∀ (h : j < X.length), X[j] = Ln.row l[j] := by
            intro h; rw [List.getElem?_eq_getElem h] at hgr; exact Option.some.inj hgr
          simp only [Bool.not_eq_true] at q
          have hgF : ∀ (h : F.length < X.length), X[F.length] = Ln.row l[F.length] := by
            intro h; rw [List.getElem?_eq_getElem h] at hgF0; exact Option.some.inj hgF0
          simp [Try.ntmps41, Try.results41, cSl, cp0, cp1, cI, cD, hj, hwj, hwF, hFj, hlr, hgr, hgj, hgF, q, forgetDelNm, rLn, Ln.row, lnDec, rCapO, rOd, odDec, Od.row]
          refine ⟨j + 1, by omega, ?_⟩
          simp [hnx]
          refine ⟨?_, ⟨by omega, by omega⟩, hlow _ _⟩
          refine Eq.trans ?_ hset.symm
          simp [rLn, Ln.row, lnDec, rCapO, rOd, odDec, Od.row]
      · have hje : j = l.length := by omega
        subst hje
        rw [List.take_length] at hF
        rw [hF]
        simp [Try.ntmps41, Try.results41, cSl, cp0, cp1, cI, cD, forgetDelNm, hFl, hlen, rLn, Ln.row, lnDec, rCapO, rOd, odDec, Od.row]
        exact ⟨[], by simp⟩
theorem forgetDel_inl : InlOk Try.prog 41 (frame1 (own1 rLn (argG (cFn 57 rCapO) fun cp => finG (if True then some ((.esl, [])) else none)) (fun l => argG (cFn 57 rCapO) fun cp => finG (if l.length ≤ 1048576 then some ((.osl 0 3 0 (l.filter (fun x => !((fun x => x.hit cp) x))).length l.length, [some (3, (l.filter (fun x => !((fun x => x.hit cp) x))).map Ln.row ++ List.replicate (l.length - (l.filter (fun x => !((fun x => x.hit cp) x))).length) [.v (.int .i64 0), .v (.int .i64 0), .v (.int .u32 0)])])) else none)))) := frame1_ok forgetDel
theorem fillDel_inl : InlOk Try.prog 41 (frame1 (own1 rLn (argG (cFn 42 rCapL) fun cp => finG (if True then some ((.esl, [])) else none)) (fun l => argG (cFn 42 rCapL) fun cp => finG (if l.length ≤ 1048576 then some ((.osl 0 3 0 (l.filter (fun x => !((fun x => x.at cp.1 cp.2) x))).length l.length, [some (3, (l.filter (fun x => !((fun x => x.at cp.1 cp.2) x))).map Ln.row ++ List.replicate (l.length - (l.filter (fun x => !((fun x => x.at cp.1 cp.2) x))).length) [.v (.int .i64 0), .v (.int .i64 0), .v (.int .u32 0)])])) else none)))) := frame1_ok fillDel
def zLn : Row := [.v (.int .i64 0), .v (.int .i64 0), .v (.int .u32 0)]
def forg (o : Od) (l : List Ln) : List Ln := l.filter (fun x => !(x.hit o))
theorem forget_own : InlOk Try.prog 45 (own1 rLn (argG (cAgg rOd) fun o => finG (if True then some ((.esl, [])) else none)) (fun l => argG (cAgg rOd) fun o => finG (if l.length ≤ 1048576 then some ((.osl 0 3 0 (forg o l).length l.length, [some (3, (forg o l).map Ln.row ++ List.replicate (l.length - (forg o l).length) zLn)])) else none))) := by
  refine own1_1 Ln.exact Try.func45 rfl ?_ ?_
  · rintro o r H' hr
    by_cases hc : True
    case neg => rw [if_neg hc] at hr; cases hr
    rw [if_pos hc] at hr
    simp only [Option.some.injEq, Prod.mk.injEq] at hr
    obtain ⟨rfl, rfl⟩ := hr
    refine bodyI_of (noOrc_ok.withI forgetDel_inl) fxMix (by kernel_rfl) (by simp [Try.ntmps45]) ?_
    intro C cP cI cN cD cF cA
    have cn0 := orcI forgetDel_inl (C := C) (by rw [cN]; rfl)
    replace cI := fun g => congrFun cI g
    simp only [Orc.withP, Orc.withI, Orc.withF, Orc.withD, Orc.withA, noOrc] at cI
    replace cD : C.dyn = fun _ => [] := cD
    clear cP cN cF cA
    simp [Try.ntmps45, Try.results45, cSl, cn0, cI, cD, rLn, lnDec, Ln.row, rCapO, rOd, odDec, Od.row]
    done
  · rintro l o r H' hne hr
    by_cases hc : l.length ≤ 1048576
    case neg => rw [if_neg hc] at hr; cases hr
    rw [if_pos hc] at hr
    simp only [Option.some.injEq, Prod.mk.injEq] at hr
    obtain ⟨rfl, rfl⟩ := hr
    refine bodyI_of (noOrc_ok.withI forgetDel_inl) fxMix (by kernel_rfl) (by simp [Try.ntmps45]) ?_
    intro C cP cI cN cD cF cA
    have cn0 := orcI forgetDel_inl (C := C) (by rw [cN]; rfl)
    replace cI := fun g => congrFun cI g
    simp only [Orc.withP, Orc.withI, Orc.withF, Orc.withD, Orc.withA, noOrc] at cI
    replace cD : C.dyn = fun _ => [] := cD
    clear cP cN cF cA
    have hpos : 0 < l.length := List.length_pos_iff.2 hne
    simp [Try.ntmps45, Try.results45, cSl, cn0, cI, cD, rLn, lnDec, Ln.row, rCapO, rOd, odDec, Od.row, hne, hpos, hc, forg, zLn]
    exact ⟨[], by simp⟩
theorem forget_inl : InlOk Try.prog 45 (frame1 (own1 rLn (argG (cAgg rOd) fun o => finG (if True then some ((.esl, [])) else none)) (fun l => argG (cAgg rOd) fun o => finG (if l.length ≤ 1048576 then some ((.osl 0 3 0 (forg o l).length l.length, [some (3, (forg o l).map Ln.row ++ List.replicate (l.length - (forg o l).length) zLn)])) else none)))) := frame1_ok forget_own
end Go.Proofs.Ytdhpgdfjogklaaa
