/- Package slab: boxes, Check. -/
import Derived.Test.YtfiindblaopaiaaSlI
import Derived.Test.YtfiindblaopaiaaAiZd
namespace Go.Proofs.Ytfiindblaopaiaa
open Go.AI
set_option maxHeartbeats 2000000
set_option maxRecDepth 100000
set_option linter.unusedSimpArgs false
set_option linter.unusedVariables false
attribute [local simp] wpA wpX RunA RunD runF foot footP footB idsA bare apart runL step1 gsel_f gsel_t gsel_s res_same res_and1 res_and2 res_and3 res_and4 res_and5 res_and6 res_false res_true res_v res_ptr res_fptr res_osl res_xsl soft aAppendZ aCap ovlI ovlJ res_fsl res_esl res_agg res_tup res_fn res_junk res_anyb aPick hk imp_left iteV dstOk guardOk astep astepE AI.ev AI.look AI.put envOf aBox cellsOf allOne allOneA oneA Value.oneCell' Value.cells newObj' aFieldAddr aLoad obj readAt thenA blockA condA retA resA tupA view hot hotC hotR depthV cAgg cInt cBool mkAgg allV aAlloc aBuild fillA writeAt aStore isAggA aField idx aIndexAddr aIndex bnd aSlice aExtract aLen aBuiltin aCall isStatic eqAgg eqTy eqC ev_add ev_sub ev_mul ev_quo ev_rem ev_and ev_or ev_xor ev_andNot ev_shl ev_shr ev_eql ev_neq ev_lss ev_leq ev_gtr ev_geq ev_agg w64 wu32 wu8 ev_not ev_neg Cod.plain RCod.plain argM finM cold coldC coldR goInt intDec boolDec aggDec Weaker heapW lowA lowC Again slDec undef aBuildSlice setRows aAppend rowsOf aMakeSlice aClear aCopy softer_self softer_nil valsOf ev_min2 ev_max2 hotR_set hotR_append take_map_set irow_cold irow_mapM irow_mapMc irow_view irow_viewc irow_hotR irow_ren irow_renc irow_low WeakT heapT thOf ren renC AgainT NextF NextT fnDec cFn rNil selfLt natLt0 natLt1 getLastMap frame0 frame1 own0 own1 argG finG tau tauI tauO tauC bareA bareC bareH irow_tau irow_tauc irow_bare irow_flat irow_bareR ownA_nil ownT_nil ownA_c ownT_c ownA_s ownT_s takeMapLen footC plainA noId noIdC cloneF frame0F frame1F insertF replaceI replaceF cellDec rCell fpDec cFp rTwo deleteF allV_oA oneA_oA res_oA RunR RunE runFT footAt hotR_cat tmodN fxSz2 fxBy2 fxAg2 fxZe2 fxSl2 fxAr2 fxPl2 fxSz3 fxBy3 fxAg3 fxZe3 fxSl3 fxAr3 fxPl3 fxSz4 fxBy4 fxAg4 fxZe4 fxSl4 fxAr4 fxPl4 fxSz5 fxBy5 fxAg5 fxZe5 fxSl5 fxAr5 fxPl5 fxSz9 fxBy9 fxAg9 fxZe9 fxSl9 fxAr9 fxPl9 fxSz12 fxBy12 fxAg12 fxZe12 fxSl12 fxAr12 fxPl12 fxSz13 fxBy13 fxAg13 fxZe13 fxSl13 fxAr13 fxFi13x0 fxFi13x1 fxPl13 fxSz21 fxBy21 fxAg21 fxZe21 fxSl21 fxAr21 fxPl21 fxSz22 fxBy22 fxAg22 fxZe22 fxSl22 fxAr22 fxPl22 fxSz23 fxBy23 fxAg23 fxZe23 fxSl23 fxAr23 fxFi23x0 fxFi23x1 fxPl23 fxSz24 fxBy24 fxAg24 fxZe24 fxSl24 fxAr24 fxFi24x0 fxFi24x1 fxPl24 fxSz25 fxBy25 fxAg25 fxZe25 fxSl25 fxAr25 fxFi25x0 fxFi25x1 fxPl25 fxSz26 fxBy26 fxAg26 fxZe26 fxSl26 fxAr26 fxFi26x0 fxFi26x1 fxPl26 fxSz27 fxBy27 fxAg27 fxZe27 fxSl27 fxAr27 fxPl27 fxSz34 fxBy34 fxAg34 fxZe34 fxSl34 fxAr34 fxPl34 fxSz37 fxBy37 fxAg37 fxZe37 fxSl37 fxAr37 fxPl37 fxSz45 fxBy45 fxAg45 fxZe45 fxSl45 fxAr45 fxFi45x0 fxFi45x1 fxPl45 fxSz46 fxBy46 fxAg46 fxZe46 fxSl46 fxAr46 fxFi46x0 fxFi46x1 fxPl46 fxSz48 fxBy48 fxAg48 fxZe48 fxSl48 fxAr48 fxPl48 fxSz49 fxBy49 fxAg49 fxZe49 fxSl49 fxAr49 fxPl49 fxSz50 fxBy50 fxAg50 fxZe50 fxSl50 fxAr50 fxFi50x0 fxFi50x1 fxPl50 fxSz51 fxBy51 fxAg51 fxZe51 fxSl51 fxAr51 fxFi51x0 fxFi51x1 fxPl51 fxSz57 fxBy57 fxAg57 fxZe57 fxSl57 fxAr57 fxPl57 fxSz69 fxBy69 fxAg69 fxZe69 fxSl69 fxAr69 fxPl69 fxSz70 fxBy70 fxAg70 fxZe70 fxSl70 fxAr70 fxPl70 fxSz92 fxBy92 fxAg92 fxZe92 fxSl92 fxAr92 fxPl92 fxSz107 fxBy107 fxAg107 fxZe107 fxSl107 fxAr107 fxPl107 fxSz108 fxBy108 fxAg108 fxZe108 fxSl108 fxAr108 fxFi108x0 fxPl108 fxSz111 fxBy111 fxAg111 fxZe111 fxSl111 fxAr111 fxPl111 fxSz115 fxBy115 fxAg115 fxZe115 fxSl115 fxAr115 fxPl115 fxSz120 fxBy120 fxAg120 fxZe120 fxSl120 fxAr120 fxPl120 fxEq26 fxEq70 fxCv2x2 fxCv2x3 fxCv2x5 fxCv2x12 fxCv2x21 fxCv2x27 fxCv2x111 fxCv3x2 fxCv3x3 fxCv3x5 fxCv3x12 fxCv3x21 fxCv3x27 fxCv3x111 fxCv5x2 fxCv5x3 fxCv5x5 fxCv5x12 fxCv5x21 fxCv5x27 fxCv5x111 fxCv12x2 fxCv12x3 fxCv12x5 fxCv12x12 fxCv12x21 fxCv12x27 fxCv12x111 fxCv21x2 fxCv21x3 fxCv21x5 fxCv21x12 fxCv21x21 fxCv21x27 fxCv21x111 fxCv27x2 fxCv27x3 fxCv27x5 fxCv27x12 fxCv27x21 fxCv27x27 fxCv27x111 fxCv111x2 fxCv111x3 fxCv111x5 fxCv111x12 fxCv111x21 fxCv111x27 fxCv111x111 fxEb4 fxNb4 fxLt9 fxLn22 fxNe22 fxNn22 fxOe22 fxOn22 fxXe22 fxXn22 fxLn34 fxNe34 fxNn34 fxOe34 fxOn34 fxXe34 fxXn34 fxLn37 fxNe37 fxNn37 fxOe37 fxOn37 fxXe37 fxXn37 fxLn48 fxNe48 fxNn48 fxOe48 fxOn48 fxXe48 fxXn48 fxLn49 fxNe49 fxNn49 fxOe49 fxOn49 fxXe49 fxXn49 fxLn57 fxNe57 fxNn57 fxOe57 fxOn57 fxXe57 fxXn57 fxLn69 fxNe69 fxNn69 fxOe69 fxOn69 fxXe69 fxXn69 fxLn92 fxNe92 fxNn92 fxOe92 fxOn92 fxXe92 fxXn92 fxFn3 fxFm3 fxFb3 fxFi3 fxFj3 fxFn4 fxFm4 fxFb4 fxFi4 fxFj4 fxFn5 fxFm5 fxFb5 fxFi5 fxFj5 fxFn6 fxFm6 fxFb6 fxFi6 fxFj6 fxFn7 fxFm7 fxFb7 fxFi7 fxFj7 fxFn8 fxFm8 fxFb8 fxFi8 fxFj8 fxFn9 fxFm9 fxFb9 fxFi9 fxFj9 fxFn10 fxFm10 fxFb10 fxFi10 fxFj10 fxFn11 fxFm11 fxFb11 fxFi11 fxFj11 fxFn12 fxFm12 fxFb12 fxFi12 fxFj12 fxFn13 fxFm13 fxFb13 fxFi13 fxFj13 fxFn14 fxFm14 fxFb14 fxFi14 fxFj14 fxFn15 fxFm15 fxFb15 fxFi15 fxFj15 fxFn16 fxFm16 fxFb16 fxFi16 fxFj16 fxFn17 fxFm17 fxFb17 fxFi17 fxFj17 fxFn18 fxFm18 fxFb18 fxFi18 fxFj18 fxFn19 fxFm19 fxFb19 fxFi19 fxFj19 fxFn20 fxFm20 fxFb20 fxFi20 fxFj20 fxFn21 fxFm21 fxFb21 fxFi21 fxFj21 fxFn22 fxFm22 fxFb22 fxFi22 fxFj22 fxFn23 fxFm23 fxFb23 fxFi23 fxFj23 fxFn24 fxFm24 fxFb24 fxFi24 fxFj24 fxFn25 fxFm25 fxFb25 fxFi25 fxFj25 fxFn26 fxFm26 fxFb26 fxFi26 fxFj26 fxFn27 fxFm27 fxFb27 fxFi27 fxFj27 fxFn28 fxFm28 fxFb28 fxFi28 fxFj28 fxFn29 fxFm29 fxFb29 fxFi29 fxFj29 fxFn30 fxFm30 fxFb30 fxFi30 fxFj30 fxFn31 fxFm31 fxFb31 fxFi31 fxFj31 fxFn32 fxFm32 fxFb32 fxFi32 fxFj32 fxFn33 fxFm33 fxFb33 fxFi33 fxFj33 fxFn34 fxFm34 fxFb34 fxFi34 fxFj34 fxFn35 fxFm35 fxFb35 fxFi35 fxFj35 fxFn36 fxFm36 fxFb36 fxFi36 fxFj36 fxFn37 fxFm37 fxFb37 fxFi37 fxFj37 fxFn38 fxFm38 fxFb38 fxFi38 fxFj38 fxFn39 fxFm39 fxFb39 fxFi39 fxFj39 fxFn40 fxFm40 fxFb40 fxFi40 fxFj40 fxFn41 fxFm41 fxFb41 fxFi41 fxFj41 fxFn42 fxFm42 fxFb42 fxFi42 fxFj42 fxFn43 fxFm43 fxFb43 fxFi43 fxFj43 fxFn44 fxFm44 fxFb44 fxFi44 fxFj44 fxFn45 fxFm45 fxFb45 fxFi45 fxFj45 fxFn46 fxFm46 fxFb46 fxFi46 fxFj46 fxFn47 fxFm47 fxFb47 fxFi47 fxFj47 fxFn48 fxFm48 fxFb48 fxFi48 fxFj48 fxFn49 fxFm49 fxFb49 fxFi49 fxFj49 fxFn50 fxFm50 fxFb50 fxFi50 fxFj50 fxFn51 fxFm51 fxFb51 fxFi51 fxFj51 fxFn52 fxFm52 fxFb52 fxFi52 fxFj52 fxFn53 fxFm53 fxFb53 fxFi53 fxFj53 fxFn54 fxFm54 fxFb54 fxFi54 fxFj54 fxFn55 fxFm55 fxFb55 fxFi55 fxFj55 fxFn56 fxFm56 fxFn57 fxFm57 fxFb57 fxFi57 fxFj57 fxFn58 fxFm58 fxFb58 fxFi58 fxFj58 fxFn59 fxFm59 fxFn60 fxFm60 fxFb60 fxFi60 fxFj60 fxFn61 fxFm61 fxFb61 fxFi61 fxFj61 fxFn62 fxFm62 fxFb62 fxFi62 fxFj62 fxFn63 fxFm63 fxFb63 fxFi63 fxFj63 fxFn64 fxFm64 fxFb64 fxFi64 fxFj64 fxFn65 fxFm65 fxFb65 fxFi65 fxFj65 fxFn66 fxFm66 fxFb66 fxFi66 fxFj66
structure Place where
  frame : Int
  at_ : Int
  deriving DecidableEq
def placeDec : Row → Option Place
  | [.v (.int .i64 x0), .v (.int .i64 x1)] => some ⟨x0, x1⟩
  | _ => none
def Place.row (e : Place) : Row := [.v (.int .i64 e.frame), .v (.int .i64 e.at_)]
def rPlace : RCod Place := RCod.plain 2 Place.row placeDec
  (fun e => rfl) (fun _ => rfl) (fun r e h => by
    unfold placeDec at h
    split at h
    · simp at h; subst h; rfl
    · cases h)
def Place.val (e : Place) : Value := .agg #[.int .i64 e.frame, .int .i64 e.at_]
theorem Place.eta (e : Place) : Place.mk e.frame e.at_ = e := rfl
attribute [local simp] Place.eta
theorem Place.cold (l : List Place) : coldR (l.map Place.row) = l.map Place.row := by
  induction l with
  | nil => simp [coldR]
  | cons e l ih => simp [coldR, coldC, AI.cold, ih, Place.row]
theorem Place.mapM (l : List Place) : (l.map Place.row).mapM placeDec = some l := mapM_dec rPlace l
theorem Place.mapMc (l : List Place) : l.mapM (placeDec ∘ Place.row) = some l := mapM_dec' rPlace l
theorem Place.view (H : Heap) (n : Nat) (e : Place) : List.map (AI.view H n) e.row = e.row := by cases n <;> simp [Place.row, AI.view]
theorem Place.viewc (H : Heap) (n : Nat) : List.map (AI.view H n) ∘ Place.row = Place.row := by funext e; exact Place.view H n e
theorem Place.hotR (l : List Place) : AI.hotR (l.map Place.row) = true := by
  induction l with
  | nil => simp [AI.hotR]
  | cons e l ih => simp [AI.hotR, hotC, hot, ih, Place.row]
theorem Place.ren (n : Nat) (th : List Nat) (e : Place) : List.map (AI.ren n th) e.row = e.row := by simp [Place.row, AI.ren]
theorem Place.renc (n : Nat) (th : List Nat) : List.map (AI.ren n th) ∘ Place.row = Place.row := by funext e; exact Place.ren n th e
theorem Place.low (n : Nat) (e : Place) : e.row.all (lowA n) = true := by simp [Place.row, lowA]
theorem Place.tau (fp : List Nat) (n : Nat) (e : Place) : List.map (AI.tau fp n) e.row = e.row := by simp [Place.row, AI.tau]
theorem Place.tauc (fp : List Nat) (n : Nat) : List.map (AI.tau fp n) ∘ Place.row = Place.row := by funext e; exact Place.tau fp n e
theorem Place.bare (e : Place) : e.row.all bareA = true := by simp [Place.row, bareA]
theorem Place.flat (l : List Place) : flat0 (l.map Place.row) = true := by simp [flat0, Place.low]
theorem Place.flat1 (e : Place) : flat0 [e.row] = true := by simp [flat0, Place.low]
theorem Place.exact : Exact rPlace := by
  intro r e h
  simp only [rPlace, RCod.plain] at h ⊢
  unfold placeDec at h
  split at h
  · simp at h; subst h; rfl
  · cases h
theorem Place.mapMt (k : Nat) (l : List Place) : (List.take k (l.map Place.row)).mapM placeDec = some (l.take k) := by rw [← List.map_take]; exact mapM_dec rPlace _
theorem Place.mapMd (k : Nat) (l : List Place) : (List.drop k (l.map Place.row)).mapM placeDec = some (l.drop k) := by rw [← List.map_drop]; exact mapM_dec rPlace _
theorem Place.coldt (k : Nat) (l : List Place) : coldR (List.take k (l.map Place.row)) = List.take k (l.map Place.row) := by rw [← List.map_take]; exact Place.cold _
theorem Place.coldd (k : Nat) (l : List Place) : coldR (List.drop k (l.map Place.row)) = List.drop k (l.map Place.row) := by rw [← List.map_drop]; exact Place.cold _
theorem Place.hotRt (k : Nat) (l : List Place) : AI.hotR (List.take k (l.map Place.row)) = true := by rw [← List.map_take]; exact Place.hotR _
theorem Place.hotRd (k : Nat) (l : List Place) : AI.hotR (List.drop k (l.map Place.row)) = true := by rw [← List.map_drop]; exact Place.hotR _
attribute [local simp] Place.hotRt Place.hotRd
attribute [local simp] Place.tau Place.tauc Place.bare Place.flat Place.flat1 Place.mapMt Place.mapMd Place.coldt Place.coldd
attribute [local simp] Place.cold Place.mapM Place.mapMc Place.view Place.viewc Place.hotR Place.ren Place.renc Place.low
structure Box where
  frame : Int
  used : List Int
  deriving DecidableEq
def boxDec : Row → Option Box
  | [.v (.int .i64 x0), a1] => match slDec (rI .i64) a1 with | some x1 => some ⟨x0, x1⟩ | _ => none
  | _ => none
def Box.row (e : Box) : Row := [.v (.int .i64 e.frame), .fsl false 1 (e.used.map (irow .i64))]
def Box.hrow (e : Box) : Row := [.v (.int .i64 e.frame), .fsl true 1 (e.used.map (irow .i64))]
theorem Box.eta (e : Box) : Box.mk e.frame e.used = e := rfl
theorem Box.dec_row (e : Box) : boxDec e.row = some e := by
  have h1 := (cSl (rI .i64)).de e.used
  simp only [cSl] at h1
  simp only [boxDec, Box.row]
  erw [h1]
theorem Box.dec_hrow (e : Box) : boxDec e.hrow = some e := Box.dec_row e
def rBox : RCod Box where
  sz := 2
  enc := Box.row
  dec := boxDec
  de := Box.dec_row
  len _ := rfl
  ok := by
    intro r e h β ok w n x hok hr
    unfold boxDec at h
    split at h
    · split at h
      · rename_i h1
        simp at h
        subst h
        refine ⟨rfl, fun j c hj => ?_⟩
        match j, hj with
        | 0, hj => simp [Box.row] at hj; subst hj; exact hr 0 _ rfl
        | 1, hj => simp [Box.row] at hj; subst hj; exact (cSl (rI .i64)).ok h1 hok (hr 1 _ rfl)
        | j + 2, hj => simp [Box.row] at hj
      · cases h
    · cases h
theorem Box.cold (l : List Box) : coldR (l.map Box.row) = l.map Box.row := by
  induction l with
  | nil => simp [coldR]
  | cons e l ih => simp [coldR, coldC, AI.cold, ih, Box.row, irow_cold]
theorem Box.hcold (l : List Box) : coldR (l.map Box.hrow) = l.map Box.row := by
  induction l with
  | nil => simp [coldR]
  | cons e l ih => simp [coldR, coldC, AI.cold, ih, Box.row, Box.hrow, irow_cold]
theorem Box.mapM (l : List Box) : (l.map Box.row).mapM boxDec = some l := mapM_dec rBox l
theorem Box.mapMc (l : List Box) : l.mapM (boxDec ∘ Box.row) = some l := mapM_dec' rBox l
theorem Box.hmapM (l : List Box) : (l.map Box.hrow).mapM boxDec = some l := by
  rw [List.mapM_map]
  have : boxDec ∘ Box.hrow = boxDec ∘ Box.row := by funext e; simp [Function.comp, Box.dec_row, Box.dec_hrow]
  rw [this]; exact Box.mapMc l
theorem Box.hmapMc (l : List Box) : l.mapM (boxDec ∘ Box.hrow) = some l := by
  have := Box.hmapM l
  rwa [List.mapM_map] at this
theorem Box.view (H : Heap) (n : Nat) (e : Box) : List.map (AI.view H n) e.row = e.row := by cases n <;> simp [Box.row, AI.view]
theorem Box.viewc (H : Heap) (n : Nat) : List.map (AI.view H n) ∘ Box.row = Box.row := by funext e; exact Box.view H n e
theorem Box.hview (H : Heap) (n : Nat) (e : Box) : List.map (AI.view H n) e.hrow = e.hrow := by cases n <;> simp [Box.hrow, AI.view]
theorem Box.hviewc (H : Heap) (n : Nat) : List.map (AI.view H n) ∘ Box.hrow = Box.hrow := by funext e; exact Box.hview H n e
theorem Box.hotR (l : List Box) : AI.hotR (l.map Box.hrow) = true := by
  induction l with
  | nil => simp [AI.hotR]
  | cons e l ih => simp [AI.hotR, hotC, hot, ih, Box.hrow, irow_hotR]
theorem Box.ren (n : Nat) (th : List Nat) (e : Box) : List.map (AI.ren n th) e.row = e.row := by simp [Box.row, AI.ren]
theorem Box.renc (n : Nat) (th : List Nat) : List.map (AI.ren n th) ∘ Box.row = Box.row := by funext e; exact Box.ren n th e
theorem Box.low (n : Nat) (e : Box) : e.row.all (lowA n) = true := by simp [Box.row, lowA]
theorem Box.hlow (n : Nat) (e : Box) : e.hrow.all (lowA n) = true := by simp [Box.hrow, lowA]
attribute [local simp] Box.hlow Box.eta Box.dec_row Box.dec_hrow Box.cold Box.hcold Box.mapM Box.mapMc Box.hmapM Box.hmapMc Box.view Box.viewc Box.hview Box.hviewc Box.hotR Box.ren Box.renc Box.low

structure Slb where
  size : Int
  boxes : List Box
  deriving DecidableEq
def slbDec : Row → Option Slb
  | [.v (.int .i64 x0), a1] => match slDec rBox a1 with | some x1 => some ⟨x0, x1⟩ | _ => none
  | _ => none
def Slb.row (e : Slb) : Row := [.v (.int .i64 e.size), .fsl false 2 (e.boxes.map Box.row)]
def Slb.hrow (e : Slb) : Row := [.v (.int .i64 e.size), .fsl true 2 (e.boxes.map Box.hrow)]
theorem Slb.eta (e : Slb) : Slb.mk e.size e.boxes = e := rfl
theorem Slb.dec_row (e : Slb) : slbDec e.row = some e := by
  have h1 := (cSl rBox).de e.boxes
  simp only [cSl] at h1
  simp only [slbDec, Slb.row]
  erw [h1]
theorem Slb.dec_hrow (e : Slb) : slbDec e.hrow = some e := by
  have h1 : slDec rBox (.fsl true 2 (e.boxes.map Box.hrow)) = some e.boxes := Box.hmapM _
  simp only [slbDec, Slb.hrow]
  erw [h1]
def rSlb : RCod Slb where
  sz := 2
  enc := Slb.row
  dec := slbDec
  de := Slb.dec_row
  len _ := rfl
  ok := by
    intro r e h β ok w n x hok hr
    unfold slbDec at h
    split at h
    · split at h
      · rename_i h1
        simp at h
        subst h
        refine ⟨rfl, fun j c hj => ?_⟩
        match j, hj with
        | 0, hj => simp [Slb.row] at hj; subst hj; exact hr 0 _ rfl
        | 1, hj => simp [Slb.row] at hj; subst hj; exact (cSl rBox).ok h1 hok (hr 1 _ rfl)
        | j + 2, hj => simp [Slb.row] at hj
      · cases h
    · cases h
attribute [local simp] Slb.eta Slb.dec_row Slb.dec_hrow

def newS (z : Int) : Int := if z < 1 ∨ 16 < z then 1 else 0
theorem new_pure : PureOk Try.prog 15 (argM (cInt .i64) fun z => finM (some (.v (.tuple #[.agg #[.int .i64 (if newS z = 0 then z else 0), .slice none 0 0], .int .i64 (newS z)])))) := by
  refine pure1 Try.func15 rfl ?_
  rintro z r hr
  simp only [Option.some.injEq] at hr
  subst hr
  refine body_gen noOrc_ok fxMix (by kernel_rfl) (by simp [Try.ntmps15]) ?_
  intro C cP cI cN cD cF cA
  replace cI : C.inl = fun _ => false := cI
  replace cD : C.dyn = fun _ => [] := cD
  clear cP cN cF cA
  unfold newS
  by_cases h1 : z < 1
  · simp [Try.ntmps15, Try.results15, cSl, cI, cD, h1]
  by_cases h2 : 16 < z
  · simp [Try.ntmps15, Try.results15, cSl, cI, cD, h1, h2]
  · simp [Try.ntmps15, Try.results15, cSl, cI, cD, h1, h2]
theorem per_pure : PureOk Try.prog 36 (argM (cAgg rSlb) fun s => finM (if 1 ≤ s.size ∧ s.size ≤ 16 then some (.v (.int .i64 ((16 / s.size.toNat : Nat) : Int))) else none)) := by
  refine pure1 Try.func36 rfl ?_
  rintro s r hr
  by_cases hc : 1 ≤ s.size ∧ s.size ≤ 16
  case neg => rw [if_neg hc] at hr; cases hr
  rw [if_pos hc] at hr
  simp only [Option.some.injEq] at hr
  subst hr
  refine body_gen noOrc_ok fxMix (by kernel_rfl) (by simp [Try.ntmps36]) ?_
  intro C cP cI cN cD cF cA
  replace cI : C.inl = fun _ => false := cI
  replace cD : C.dyn = fun _ => [] := cD
  clear cP cN cF cA
  obtain ⟨z, L⟩ := s
  simp only at hc
  obtain ⟨z, rfl⟩ := Int.eq_ofNat_of_zero_le (show 0 ≤ z by omega)
  have h0 : ¬ z = 0 := by omega
  have h2 : 16 / z ≤ 16 := Nat.div_le_self _ _
  obtain ⟨q, hq⟩ : ∃ q, q = 16 / z := ⟨_, rfl⟩
  have h1 : (16 : Int).tdiv (z : Int) = (q : Int) := by rw [hq]; rfl
  have h3 : (16 : Int) / (z : Int) = (q : Int) := by rw [hq]; rfl
  rw [← hq] at h2
  have w1 : IntKind.i64.wrap (q : Int) = (q : Int) := w64 (by omega) (by omega)
  simp [Try.ntmps36, Try.results36, cSl, cI, cD, rSlb, Slb.row, h0, h1, w1, h3]
/-- what is right of a place in a box -/
def okAt (z : Nat) (u : List Int) (k : Nat) : Bool :=
  let a := u[k]?.getD 0
  decide (0 ≤ a) && decide (a.toNat % z = 0) && decide (a.toNat / z < 16 / z) && (k == 0 || decide (u[k - 1]?.getD 0 < a))
def okBox (z : Nat) (L : List Box) (k : Nat) : Bool :=
  let b := L[k]?.getD ⟨0, []⟩
  decide (0 ≤ b.frame) && decide (b.frame < 64) && (k == 0 || decide ((L[k - 1]?.getD ⟨0, []⟩).frame < b.frame)) && !b.used.isEmpty && (List.range b.used.length).all (okAt z b.used)
def slCheck (s : Slb) : Int :=
  if newS s.size = 0 then (if 64 < s.boxes.length then 2 else if (List.range s.boxes.length).all (okBox s.size.toNat s.boxes) = true then 0 else 3) else 1
theorem okAt_iff {z : Nat} {u : List Int} {k : Nat} (hk : k < u.length) : okAt z u k = true ↔ 0 ≤ u[k] ∧ u[k].toNat % z = 0 ∧ u[k].toNat / z < 16 / z ∧ (0 < k → u[k - 1]'(by omega) < u[k]) := by
  unfold okAt
  simp only [List.getElem?_eq_getElem hk, Option.getD_some, Bool.and_eq_true, decide_eq_true_eq, Bool.or_eq_true, beq_iff_eq]
  by_cases h : k = 0
  · subst h; simp [and_assoc]
  · have h1 : k - 1 < u.length := by omega
    simp [List.getElem?_eq_getElem h1, h, Nat.pos_of_ne_zero h, and_assoc]
theorem okBox_iff {z : Nat} {L : List Box} {k : Nat} (hk : k < L.length) : okBox z L k = true ↔ 0 ≤ L[k].frame ∧ L[k].frame < 64 ∧ (0 < k → (L[k - 1]'(by omega)).frame < L[k].frame) ∧ L[k].used ≠ [] ∧ ∀ i, i < L[k].used.length → okAt z L[k].used i = true := by
  unfold okBox
  simp only [List.getElem?_eq_getElem hk, Option.getD_some, Bool.and_eq_true, decide_eq_true_eq, Bool.or_eq_true, beq_iff_eq, List.all_eq_true, List.mem_range]
  by_cases h : k = 0
  · subst h; simp [and_assoc]
  · have h1 : k - 1 < L.length := by omega
    simp [List.getElem?_eq_getElem h1, h, Nat.pos_of_ne_zero h, and_assoc]
/-- places that rise are few -/
theorem few {z : Nat} {u : List Int} (hz : 1 ≤ z) (hz2 : z ≤ 16) {k : Nat} (hk : k ≤ u.length) (h : ∀ i, i < k → okAt z u i = true) : k ≤ 16 := by
  have key : ∀ i (hi : i < k), (i : Int) ≤ u[i]'(by omega) := by
    intro i
    induction i with
    | zero => intro hi; have := (okAt_iff (by omega)).1 (h 0 hi); simpa using this.1
    | succ i ih =>
      intro hi
      have h1 := ih (by omega)
      have h2 := ((okAt_iff (by omega)).1 (h (i + 1) hi)).2.2.2 (by omega)
      simp only [Nat.add_sub_cancel] at h2
      omega
  apply Classical.byContradiction
  intro hn
  have h1 := key 16 (by omega)
  have h2 := (okAt_iff (by omega)).1 (h 16 (by omega))
  have h3 : 16 / z ≤ (u[16]'(by omega)).toNat / z := Nat.div_le_div_right (by omega)
  omega
def okS (s : Slb) : Prop := ∀ b ∈ s.boxes, ∀ a ∈ b.used, a ≤ 9223372036854775807
instance (s : Slb) : Decidable (okS s) := by unfold okS; infer_instance
theorem slCheck_pure : PureOk Try.prog 20 (argM (cAgg rSlb) fun s => finM (if okS s then some (.v (.int .i64 (slCheck s))) else none)) := by
  refine pure1 Try.func20 rfl ?_
  rintro s r hr
  by_cases hc : okS s
  case neg => rw [if_neg hc] at hr; cases hr
  rw [if_pos hc] at hr
  simp only [Option.some.injEq] at hr
  subst hr
  refine body_gen ((noOrc_ok.withP new_pure).withP per_pure) fxMix (by kernel_rfl) (by simp [Try.ntmps20]) ?_
  intro C cP cI cN cD cF cA
  have cp0 := orcP new_pure (C := C) (by rw [cP]; rfl)
  have cp1 := orcP per_pure (C := C) (by rw [cP]; rfl)
  replace cI : C.inl = fun _ => false := cI
  replace cD : C.dyn = fun _ => [] := cD
  clear cP cN cF cA
  obtain ⟨z, L⟩ := s
  unfold slCheck
  simp only
  by_cases h0 : newS z = 0
  case neg =>
    have h1 : newS z = 1 := by unfold newS at h0 ⊢; split <;> simp_all
    simp [Try.ntmps20, Try.results20, cSl, cp0, cp1, cI, cD, rSlb, Slb.row, h1]
  have hz : 1 ≤ z ∧ z ≤ 16 := by unfold newS at h0; split at h0 <;> simp_all
  obtain ⟨z, rfl⟩ := Int.eq_ofNat_of_zero_le (show 0 ≤ z by omega)
  have hz : 1 ≤ z ∧ z ≤ 16 := by omega
  have hz0 : ¬ z = 0 := by omega
  have hz1 : 1 ≤ (z : Int) ∧ (z : Int) ≤ 16 := by omega
  by_cases h1 : 64 < L.length
  · have h1' : (64 : Int) < L.length := by omega
    simp [Try.ntmps20, Try.results20, cSl, cp0, cp1, cI, cD, rSlb, Slb.row, h0, h1, h1']
  have h1' : ¬ (64 : Int) < L.length := by omega
  simp [Try.ntmps20, Try.results20, cSl, cp0, cp1, cI, cD, rSlb, Slb.row, h0, h1, h1']
  refine loop_for L.length (fun k (_ : Unit) => ([(1, .ptr 0 2 0 0), (23, .fsl false 2 (L.map Box.row)), (24, .v (.int .i64 L.length)), (25, .v (.int .i64 k))], [some (2, [Slb.row ⟨z, L⟩])])) (fun k _ => ∀ i, i < k → okBox z L i = true) () (by omega) (by omega) (by simp [Slb.row]) ?_ ?_
  · rintro k _ hk hall hw
    have hiff := okBox_iff (z := z) hk
    have hno : ¬ okBox z L k = true → (∀ x, x < L.length → okBox z L x = true) = False := fun h => eq_false fun h2 => h (h2 k hk)
    have hprev : 0 < k → (L.map Box.row)[k - 1]? = some (Box.row (L[k - 1]'(by omega))) := fun h => by simp [show k - 1 < L.length by omega]
    have w1 : 0 < k → IntKind.i64.wrap ((k : Int) - 1) = ((k - 1 : Nat) : Int) := fun h => by rw [w64 (by omega) (by omega)]; omega
    by_cases hk0 : k = 0
    · subst hk0
      generalize hb : L[0] = b at *
      obtain ⟨f, u⟩ := b
      simp only at hiff
      by_cases b1 : f < 0
      · have hn := hno (by rw [hiff]; omega)
        simp [Try.ntmps20, Try.results20, cSl, cp0, cp1, cI, cD, hk, hb, Box.row, b1, hn]
      by_cases b2 : 64 ≤ f
      · have hn := hno (by rw [hiff]; omega)
        simp [Try.ntmps20, Try.results20, cSl, cp0, cp1, cI, cD, hk, hb, Box.row, b1, b2, hn]
      by_cases b3 : u = []
      · have hn := hno (by rw [hiff]; simp [b3])
        simp [Try.ntmps20, Try.results20, cSl, cp0, cp1, cI, cD, hk, hb, Box.row, b1, b2, b3, hn]
      have b3' : ¬ u.length = 0 := fun h => b3 (List.length_eq_zero_iff.1 h)
      have hS : ∀ a ∈ u, a ≤ 9223372036854775807 := hc ⟨f, u⟩ (by rw [← hb]; exact List.getElem_mem hk)
      simp [Try.ntmps20, Try.results20, cSl, cp0, cp1, cI, cD, hk, hb, Box.row, b1, b2, b3, b3']
      refine loop_forB u.length (fun i (_ : Unit) => ([(1, .ptr 0 2 0 0), (6, .ptr 1 2 0 0), (23, .fsl false 2 (L.map Box.row)), (24, .v (.int .i64 L.length)), (25, .v (.int .i64 0)), (61, .fsl false 1 (u.map (irow .i64))), (62, .v (.int .i64 u.length)), (63, .v (.int .i64 i))], [some (2, [Slb.row ⟨z, L⟩]), some (2, [Box.row ⟨f, u⟩])])) (fun i _ => ∀ j, j < i → okAt z u j = true) () (fun i _ hi h => by have := few hz.1 hz.2 (by omega) h; omega) (by omega) (by simp [Slb.row, Box.row]) ?_ ?_
      · rintro i _ hi hgood hw2
        have hii := okAt_iff (z := z) hi
        have hi16 := few hz.1 hz.2 (Nat.le_of_lt hi) hgood
        have hbad : ¬ okAt z u i = true → (∀ x, x < L.length → okBox z L x = true) = False := fun h => hno (fun h2 => h ((hiff.1 h2).2.2.2.2 i hi))
        have hax : u[i] ≤ 9223372036854775807 := hS _ (List.getElem_mem hi)
        by_cases a1 : u[i] < 0
        · have hn := hbad (by rw [hii]; omega)
          simp [Try.ntmps20, Try.results20, cSl, cp0, cp1, cI, cD, hi, irow, a1, hn, Slb.row, Box.row, rSlb, slbDec, rBox, rI, hz0, hz1]
        obtain ⟨x, hx⟩ := Int.eq_ofNat_of_zero_le (show 0 ≤ u[i] by omega)
        rw [hx] at hii hax
        rw [Int.toNat_natCast] at hii
        obtain ⟨q, hq⟩ : ∃ q, q = 16 / z := ⟨_, rfl⟩
        obtain ⟨xq, hxq⟩ : ∃ q, q = x / z := ⟨_, rfl⟩
        obtain ⟨xr, hxr⟩ : ∃ q, q = x % z := ⟨_, rfl⟩
        rw [← hq, ← hxq, ← hxr] at hii
        have e1 : Int.tmod (x : Int) (z : Int) = (xr : Int) := by rw [hxr]; rfl
        have e2 : Int.tdiv (x : Int) (z : Int) = (xq : Int) := by rw [hxq]; rfl
        have e3 : (16 : Int) / (z : Int) = (q : Int) := by rw [hq]; rfl
        have hxq2 : xq ≤ x := by rw [hxq]; exact Nat.div_le_self _ _
        have w3 : IntKind.i64.wrap (xq : Int) = (xq : Int) := w64 (by omega) (by omega)
        by_cases a2 : xr = 0
        case neg =>
          have a2' : ¬ (xr : Int) = 0 := by omega
          have hn := hbad (by rw [hii]; omega)
          simp [Try.ntmps20, Try.results20, cSl, cp0, cp1, cI, cD, hi, irow, hx, a2, a2', e1, e2, e3, w3, hn, Slb.row, Box.row, rSlb, slbDec, rBox, rI, hz0, hz1]
        by_cases a3 : xq < q
        case neg =>
          have a3' : (q : Int) ≤ xq := by omega
          have a3'' : q ≤ xq := by omega
          have hn := hbad (by rw [hii]; omega)
          simp [Try.ntmps20, Try.results20, cSl, cp0, cp1, cI, cD, hi, irow, hx, a2, a3', a3'', e1, e2, e3, w3, hn, Slb.row, Box.row, rSlb, slbDec, rBox, rI, hz0, hz1]
        have a3' : ¬ (q : Int) ≤ xq := by omega
        have a3'' : ¬ q ≤ xq := by omega
        have hlow : (Slb.row ⟨z, L⟩).all (lowA 2) = true := by simp [Slb.row, lowA]
        by_cases i0 : i = 0
        · subst i0
          have hg : okAt z u 0 = true := by rw [hii]; omega
          simp [Try.ntmps20, Try.results20, cSl, cp0, cp1, cI, cD, hi, irow, hx, a2, a3', a3'', e1, e2, e3, w3, hw2, Slb.row, Box.row, rSlb, slbDec, rBox, rI, hz0, hz1]
          exact hg
        · have hpi : i - 1 < u.length := by omega
          have w4 : IntKind.i64.wrap ((i : Int) - 1) = ((i - 1 : Nat) : Int) := by rw [w64 (by omega) (by omega)]; omega
          have i1 : 0 < i := by omega
          have i2 : (0 : Int) < i := by omega
          by_cases a4 : u[i - 1] < x
          · have a4' : ¬ (x : Int) ≤ u[i - 1] := by omega
            have hg : ∀ j, j < i + 1 → okAt z u j = true := fun j hj => by
              by_cases e : j = i
              · subst e; rw [hii]; exact ⟨by omega, a2, a3, fun _ => a4⟩
              · exact hgood j (by omega)
            simp [Try.ntmps20, Try.results20, cSl, cp0, cp1, cI, cD, hi, irow, hx, a2, a3', a3'', a4', e1, e2, e3, w3, w4, i0, i1, i2, hpi, hw2, Slb.row, Box.row, rSlb, slbDec, rBox, rI, hz0, hz1]
            exact hg
          · have a4' : (x : Int) ≤ u[i - 1] := by omega
            have hn := hbad (by rw [hii]; exact fun h => a4 (h.2.2.2 i1))
            simp [Try.ntmps20, Try.results20, cSl, cp0, cp1, cI, cD, hi, irow, hx, a2, a3', a3'', a4', e1, e2, e3, w3, w4, i0, i1, i2, hpi, hw2, hn, Slb.row, Box.row, rSlb, slbDec, rBox, rI, hz0, hz1]
            done
      · rintro _ hgood
        have hgk : okBox z L 0 = true := by rw [hiff]; exact ⟨by omega, by omega, fun h => absurd h (Nat.lt_irrefl 0), b3, hgood⟩
        simp [Try.ntmps20, Try.results20, cSl, cp0, cp1, cI, cD, hw, Slb.row]
        exact hgk
    · have hkp : 0 < k := by omega
      have hkp' : (0 : Int) < k := by omega
      have hpv := hprev hkp
      have wk := w1 hkp
      have hk1 : k - 1 < L.length := by omega
      have hgall : okBox z L k = true → ∀ i, i < k + 1 → okBox z L i = true := fun h i hi => by
        by_cases e : i = k
        · subst e; exact h
        · exact hall i (by omega)
      generalize hb : L[k] = b at *
      obtain ⟨f, u⟩ := b
      simp only at hiff
      by_cases b1 : f < 0
      · have hn := hno (by rw [hiff]; omega)
        simp [Try.ntmps20, Try.results20, cSl, cp0, cp1, cI, cD, hk, hk0, hkp, hkp', hk1, wk, hb, Box.row, b1, hn]
      by_cases b2 : 64 ≤ f
      · have hn := hno (by rw [hiff]; omega)
        simp [Try.ntmps20, Try.results20, cSl, cp0, cp1, cI, cD, hk, hk0, hkp, hkp', hk1, wk, hb, Box.row, b1, b2, hn]
      by_cases b4 : L[k - 1].frame < f
      case neg =>
        have b4' : f ≤ L[k - 1].frame := by omega
        have hn := hno (by rw [hiff]; exact fun h => b4 (h.2.2.1 hkp))
        simp [Try.ntmps20, Try.results20, cSl, cp0, cp1, cI, cD, hk, hk0, hkp, hkp', hk1, wk, hb, Box.row, Slb.row, b1, b2, b4', hn]
      have b4' : ¬ f ≤ L[k - 1].frame := by omega
      by_cases b3 : u = []
      · have hn := hno (by rw [hiff]; simp [b3])
        simp [Try.ntmps20, Try.results20, cSl, cp0, cp1, cI, cD, hk, hk0, hkp, hkp', hk1, wk, hb, Box.row, Slb.row, b1, b2, b3, b4', hn]
      have b3' : ¬ u.length = 0 := fun h => b3 (List.length_eq_zero_iff.1 h)
      have hS : ∀ a ∈ u, a ≤ 9223372036854775807 := hc ⟨f, u⟩ (by rw [← hb]; exact List.getElem_mem hk)
      simp [Try.ntmps20, Try.results20, cSl, cp0, cp1, cI, cD, hk, hk0, hkp, hkp', hk1, wk, hb, Box.row, Slb.row, b1, b2, b3, b3', b4']
      refine loop_forB u.length (fun i (_ : Unit) => ([(1, .ptr 0 2 0 0), (6, .ptr 1 2 0 0), (23, .fsl false 2 (L.map Box.row)), (24, .v (.int .i64 L.length)), (25, .v (.int .i64 k)), (61, .fsl false 1 (u.map (irow .i64))), (62, .v (.int .i64 u.length)), (63, .v (.int .i64 i))], [some (2, [Slb.row ⟨z, L⟩]), some (2, [Box.row ⟨f, u⟩])])) (fun i _ => ∀ j, j < i → okAt z u j = true) () (fun i _ hi h => by have := few hz.1 hz.2 (by omega) h; omega) (by omega) (by simp [Slb.row, Box.row]) ?_ ?_
      · rintro i _ hi hgood hw2
        have hii := okAt_iff (z := z) hi
        have hi16 := few hz.1 hz.2 (Nat.le_of_lt hi) hgood
        have hbad : ¬ okAt z u i = true → (∀ x, x < L.length → okBox z L x = true) = False := fun h => hno (fun h2 => h ((hiff.1 h2).2.2.2.2 i hi))
        have hax : u[i] ≤ 9223372036854775807 := hS _ (List.getElem_mem hi)
        by_cases a1 : u[i] < 0
        · have hn := hbad (by rw [hii]; omega)
          simp [Try.ntmps20, Try.results20, cSl, cp0, cp1, cI, cD, hi, irow, a1, hn, Slb.row, Box.row, rSlb, slbDec, rBox, rI, hz0, hz1]
        obtain ⟨x, hx⟩ := Int.eq_ofNat_of_zero_le (show 0 ≤ u[i] by omega)
        rw [hx] at hii hax
        rw [Int.toNat_natCast] at hii
        obtain ⟨q, hq⟩ : ∃ q, q = 16 / z := ⟨_, rfl⟩
        obtain ⟨xq, hxq⟩ : ∃ q, q = x / z := ⟨_, rfl⟩
        obtain ⟨xr, hxr⟩ : ∃ q, q = x % z := ⟨_, rfl⟩
        rw [← hq, ← hxq, ← hxr] at hii
        have e1 : Int.tmod (x : Int) (z : Int) = (xr : Int) := by rw [hxr]; rfl
        have e2 : Int.tdiv (x : Int) (z : Int) = (xq : Int) := by rw [hxq]; rfl
        have e3 : (16 : Int) / (z : Int) = (q : Int) := by rw [hq]; rfl
        have hxq2 : xq ≤ x := by rw [hxq]; exact Nat.div_le_self _ _
        have w3 : IntKind.i64.wrap (xq : Int) = (xq : Int) := w64 (by omega) (by omega)
        by_cases a2 : xr = 0
        case neg =>
          have a2' : ¬ (xr : Int) = 0 := by omega
          have hn := hbad (by rw [hii]; omega)
          simp [Try.ntmps20, Try.results20, cSl, cp0, cp1, cI, cD, hi, irow, hx, a2, a2', e1, e2, e3, w3, hn, Slb.row, Box.row, rSlb, slbDec, rBox, rI, hz0, hz1]
        by_cases a3 : xq < q
        case neg =>
          have a3' : (q : Int) ≤ xq := by omega
          have a3'' : q ≤ xq := by omega
          have hn := hbad (by rw [hii]; omega)
          simp [Try.ntmps20, Try.results20, cSl, cp0, cp1, cI, cD, hi, irow, hx, a2, a3', a3'', e1, e2, e3, w3, hn, Slb.row, Box.row, rSlb, slbDec, rBox, rI, hz0, hz1]
        have a3' : ¬ (q : Int) ≤ xq := by omega
        have a3'' : ¬ q ≤ xq := by omega
        have hlow : (Slb.row ⟨z, L⟩).all (lowA 2) = true := by simp [Slb.row, lowA]
        by_cases i0 : i = 0
        · subst i0
          have hg : okAt z u 0 = true := by rw [hii]; omega
          simp [Try.ntmps20, Try.results20, cSl, cp0, cp1, cI, cD, hi, irow, hx, a2, a3', a3'', e1, e2, e3, w3, hw2, Slb.row, Box.row, rSlb, slbDec, rBox, rI, hz0, hz1]
          exact hg
        · have hpi : i - 1 < u.length := by omega
          have w4 : IntKind.i64.wrap ((i : Int) - 1) = ((i - 1 : Nat) : Int) := by rw [w64 (by omega) (by omega)]; omega
          have i1 : 0 < i := by omega
          have i2 : (0 : Int) < i := by omega
          by_cases a4 : u[i - 1] < x
          · have a4' : ¬ (x : Int) ≤ u[i - 1] := by omega
            have hg : ∀ j, j < i + 1 → okAt z u j = true := fun j hj => by
              by_cases e : j = i
              · subst e; rw [hii]; exact ⟨by omega, a2, a3, fun _ => a4⟩
              · exact hgood j (by omega)
            simp [Try.ntmps20, Try.results20, cSl, cp0, cp1, cI, cD, hi, irow, hx, a2, a3', a3'', a4', e1, e2, e3, w3, w4, i0, i1, i2, hpi, hw2, Slb.row, Box.row, rSlb, slbDec, rBox, rI, hz0, hz1]
            exact hg
          · have a4' : (x : Int) ≤ u[i - 1] := by omega
            have hn := hbad (by rw [hii]; exact fun h => a4 (h.2.2.2 i1))
            simp [Try.ntmps20, Try.results20, cSl, cp0, cp1, cI, cD, hi, irow, hx, a2, a3', a3'', a4', e1, e2, e3, w3, w4, i0, i1, i2, hpi, hw2, hn, Slb.row, Box.row, rSlb, slbDec, rBox, rI, hz0, hz1]
            done
      · rintro _ hgood
        have hgk : okBox z L k = true := by rw [hiff]; exact ⟨by omega, by omega, fun _ => b4, b3, hgood⟩
        simp [Try.ntmps20, Try.results20, cSl, cp0, cp1, cI, cD, hw, Slb.row]
        exact hgall hgk
  · rintro _ hall
    have hyes : (∀ x, x < L.length → okBox z L x = true) = True := eq_true fun x hx => hall x hx
    simp [Try.ntmps20, Try.results20, cSl, cp0, cp1, cI, cD, hyes]
end Go.Proofs.Ytfiindblaopaiaa
