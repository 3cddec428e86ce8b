/- Package tlb: copied; some of the inner lists stay own. Package tlb: copied. Package tlb: copied. Package tlb: Fill. Package tlb: plain laws of lines and orders. -/
import Derived.Test.YtdhpgdfjogklaaaTmA
import Derived.Test.YtdhpgdfjogklaaaAiZe
import Derived.Test.YtdhpgdfjogklaaaAiZf
namespace Go.Proofs.Ytdhpgdfjogklaaa
open Go.AI
set_option maxHeartbeats 2000000
set_option maxRecDepth 100000
set_option linter.unusedSimpArgs false
set_option linter.unusedVariables false
attribute [local simp] wpA wpX RunA RunD runF foot footP footB idsA bare apart runL step1 gsel_f gsel_t gsel_s res_same res_and1 res_and2 res_and3 res_and4 res_and5 res_and6 res_false res_true res_v res_ptr res_fptr res_osl res_xsl soft aAppendZ aCap ovlI ovlJ res_fsl res_esl res_agg res_tup res_fn res_junk res_anyb aPick hk imp_left iteV dstOk guardOk astep astepE AI.ev AI.look AI.put envOf aBox cellsOf allOne allOneA oneA Value.oneCell' Value.cells newObj' aFieldAddr aLoad obj readAt thenA blockA condA retA resA tupA view hot hotC hotR depthV cAgg cInt cBool mkAgg allV aAlloc aBuild fillA writeAt aStore isAggA aField idx aIndexAddr aIndex bnd aSlice aExtract aLen aBuiltin aCall isStatic eqAgg eqTy eqC ev_add ev_sub ev_mul ev_quo ev_rem ev_and ev_or ev_xor ev_andNot ev_shl ev_shr ev_eql ev_neq ev_lss ev_leq ev_gtr ev_geq ev_agg w64 wu32 wu8 ev_not ev_neg Cod.plain RCod.plain argM finM cold coldC coldR goInt intDec boolDec aggDec Weaker heapW lowA lowC Again slDec undef aBuildSlice setRows aAppend rowsOf aMakeSlice aClear aCopy softer_self softer_nil valsOf ev_min2 ev_max2 hotR_set hotR_append take_map_set irow_cold irow_mapM irow_mapMc irow_view irow_viewc irow_hotR irow_ren irow_renc irow_low WeakT heapT thOf ren renC AgainT NextF NextT fnDec cFn rNil selfLt natLt0 natLt1 getLastMap frame0 frame1 own0 own1 argG finG tau tauI tauO tauC bareA bareC bareH irow_tau irow_tauc irow_bare irow_flat irow_bareR ownA_nil ownT_nil ownA_c ownT_c ownA_s ownT_s takeMapLen footC plainA noId noIdC cloneF frame0F frame1F insertF replaceI replaceF cellDec rCell fpDec cFp rTwo deleteF allV_oA oneA_oA res_oA RunR RunE runFT footAt hotR_cat tmodN frameN newA newC newH fxSz2 fxBy2 fxAg2 fxZe2 fxSl2 fxAr2 fxPl2 fxSz3 fxBy3 fxAg3 fxZe3 fxSl3 fxAr3 fxPl3 fxSz4 fxBy4 fxAg4 fxZe4 fxSl4 fxAr4 fxPl4 fxSz5 fxBy5 fxAg5 fxZe5 fxSl5 fxAr5 fxPl5 fxSz9 fxBy9 fxAg9 fxZe9 fxSl9 fxAr9 fxPl9 fxSz12 fxBy12 fxAg12 fxZe12 fxSl12 fxAr12 fxPl12 fxSz13 fxBy13 fxAg13 fxZe13 fxSl13 fxAr13 fxFi13x0 fxFi13x1 fxPl13 fxSz21 fxBy21 fxAg21 fxZe21 fxSl21 fxAr21 fxPl21 fxSz22 fxBy22 fxAg22 fxZe22 fxSl22 fxAr22 fxPl22 fxSz23 fxBy23 fxAg23 fxZe23 fxSl23 fxAr23 fxFi23x0 fxFi23x1 fxPl23 fxSz24 fxBy24 fxAg24 fxZe24 fxSl24 fxAr24 fxFi24x0 fxFi24x1 fxPl24 fxSz25 fxBy25 fxAg25 fxZe25 fxSl25 fxAr25 fxPl25 fxSz26 fxBy26 fxAg26 fxZe26 fxSl26 fxAr26 fxPl26 fxSz27 fxBy27 fxAg27 fxZe27 fxSl27 fxAr27 fxFi27x0 fxFi27x1 fxFi27x2 fxFi27x3 fxFi27x4 fxFi27x5 fxFi27x6 fxPl27 fxSz28 fxBy28 fxAg28 fxZe28 fxSl28 fxAr28 fxFi28x0 fxFi28x1 fxFi28x2 fxFi28x3 fxFi28x4 fxFi28x5 fxFi28x6 fxPl28 fxSz29 fxBy29 fxAg29 fxZe29 fxSl29 fxAr29 fxPl29 fxSz44 fxBy44 fxAg44 fxZe44 fxSl44 fxAr44 fxPl44 fxSz45 fxBy45 fxAg45 fxZe45 fxSl45 fxAr45 fxPl45 fxSz52 fxBy52 fxAg52 fxZe52 fxSl52 fxAr52 fxPl52 fxSz54 fxBy54 fxAg54 fxZe54 fxSl54 fxAr54 fxFi54x0 fxFi54x1 fxPl54 fxSz55 fxBy55 fxAg55 fxZe55 fxSl55 fxAr55 fxFi55x0 fxFi55x1 fxPl55 fxSz56 fxBy56 fxAg56 fxZe56 fxSl56 fxAr56 fxPl56 fxSz60 fxBy60 fxAg60 fxZe60 fxSl60 fxAr60 fxPl60 fxSz61 fxBy61 fxAg61 fxZe61 fxSl61 fxAr61 fxPl61 fxSz62 fxBy62 fxAg62 fxZe62 fxSl62 fxAr62 fxFi62x0 fxFi62x1 fxPl62 fxSz63 fxBy63 fxAg63 fxZe63 fxSl63 fxAr63 fxFi63x0 fxFi63x1 fxPl63 fxSz76 fxBy76 fxAg76 fxZe76 fxSl76 fxAr76 fxPl76 fxSz83 fxBy83 fxAg83 fxZe83 fxSl83 fxAr83 fxFi83x0 fxFi83x1 fxFi83x2 fxPl83 fxSz84 fxBy84 fxAg84 fxZe84 fxSl84 fxAr84 fxFi84x0 fxFi84x1 fxFi84x2 fxPl84 fxSz99 fxBy99 fxAg99 fxZe99 fxSl99 fxAr99 fxPl99 fxSz106 fxBy106 fxAg106 fxZe106 fxSl106 fxAr106 fxPl106 fxSz107 fxBy107 fxAg107 fxZe107 fxSl107 fxAr107 fxFi107x0 fxPl107 fxSz113 fxBy113 fxAg113 fxZe113 fxSl113 fxAr113 fxPl113 fxSz118 fxBy118 fxAg118 fxZe118 fxSl118 fxAr118 fxPl118 fxEq28 fxEq55 fxEq56 fxEq84 fxCv2x2 fxCv2x3 fxCv2x5 fxCv2x12 fxCv2x21 fxCv2x29 fxCv2x45 fxCv3x2 fxCv3x3 fxCv3x5 fxCv3x12 fxCv3x21 fxCv3x29 fxCv3x45 fxCv5x2 fxCv5x3 fxCv5x5 fxCv5x12 fxCv5x21 fxCv5x29 fxCv5x45 fxCv12x2 fxCv12x3 fxCv12x5 fxCv12x12 fxCv12x21 fxCv12x29 fxCv12x45 fxCv21x2 fxCv21x3 fxCv21x5 fxCv21x12 fxCv21x21 fxCv21x29 fxCv21x45 fxCv29x2 fxCv29x3 fxCv29x5 fxCv29x12 fxCv29x21 fxCv29x29 fxCv29x45 fxCv45x2 fxCv45x3 fxCv45x5 fxCv45x12 fxCv45x21 fxCv45x29 fxCv45x45 fxEb4 fxNb4 fxLt9 fxLn22 fxNe22 fxNn22 fxOe22 fxOn22 fxXe22 fxXn22 fxLn44 fxNe44 fxNn44 fxOe44 fxOn44 fxXe44 fxXn44 fxLn52 fxNe52 fxNn52 fxOe52 fxOn52 fxXe52 fxXn52 fxLn60 fxNe60 fxNn60 fxOe60 fxOn60 fxXe60 fxXn60 fxLn61 fxNe61 fxNn61 fxOe61 fxOn61 fxXe61 fxXn61 fxLn76 fxNe76 fxNn76 fxOe76 fxOn76 fxXe76 fxXn76 fxFn3 fxFm3 fxFb3 fxFi3 fxFj3 fxFn4 fxFm4 fxFb4 fxFi4 fxFj4 fxFn5 fxFm5 fxFb5 fxFi5 fxFj5 fxFn6 fxFm6 fxFb6 fxFi6 fxFj6 fxFn7 fxFm7 fxFb7 fxFi7 fxFj7 fxFn8 fxFm8 fxFb8 fxFi8 fxFj8 fxFn9 fxFm9 fxFb9 fxFi9 fxFj9 fxFn10 fxFm10 fxFb10 fxFi10 fxFj10 fxFn11 fxFm11 fxFb11 fxFi11 fxFj11 fxFn12 fxFm12 fxFb12 fxFi12 fxFj12 fxFn13 fxFm13 fxFb13 fxFi13 fxFj13 fxFn14 fxFm14 fxFb14 fxFi14 fxFj14 fxFn15 fxFm15 fxFb15 fxFi15 fxFj15 fxFn16 fxFm16 fxFb16 fxFi16 fxFj16 fxFn17 fxFm17 fxFb17 fxFi17 fxFj17 fxFn18 fxFm18 fxFb18 fxFi18 fxFj18 fxFn19 fxFm19 fxFb19 fxFi19 fxFj19 fxFn20 fxFm20 fxFb20 fxFi20 fxFj20 fxFn21 fxFm21 fxFb21 fxFi21 fxFj21 fxFn22 fxFm22 fxFb22 fxFi22 fxFj22 fxFn23 fxFm23 fxFb23 fxFi23 fxFj23 fxFn24 fxFm24 fxFb24 fxFi24 fxFj24 fxFn25 fxFm25 fxFb25 fxFi25 fxFj25 fxFn26 fxFm26 fxFb26 fxFi26 fxFj26 fxFn27 fxFm27 fxFb27 fxFi27 fxFj27 fxFn28 fxFm28 fxFb28 fxFi28 fxFj28 fxFn29 fxFm29 fxFb29 fxFi29 fxFj29 fxFn30 fxFm30 fxFb30 fxFi30 fxFj30 fxFn31 fxFm31 fxFb31 fxFi31 fxFj31 fxFn32 fxFm32 fxFb32 fxFi32 fxFj32 fxFn33 fxFm33 fxFb33 fxFi33 fxFj33 fxFn34 fxFm34 fxFb34 fxFi34 fxFj34 fxFn35 fxFm35 fxFb35 fxFi35 fxFj35 fxFn36 fxFm36 fxFb36 fxFi36 fxFj36 fxFn37 fxFm37 fxFb37 fxFi37 fxFj37 fxFn38 fxFm38 fxFb38 fxFi38 fxFj38 fxFn39 fxFm39 fxFb39 fxFi39 fxFj39 fxFn40 fxFm40 fxFb40 fxFi40 fxFj40 fxFn41 fxFm41 fxFb41 fxFi41 fxFj41 fxFn42 fxFm42 fxFb42 fxFi42 fxFj42 fxFn43 fxFm43 fxFb43 fxFi43 fxFj43 fxFn44 fxFm44 fxFb44 fxFi44 fxFj44 fxFn45 fxFm45 fxFb45 fxFi45 fxFj45 fxFn46 fxFm46 fxFb46 fxFi46 fxFj46 fxFn47 fxFm47 fxFb47 fxFi47 fxFj47 fxFn48 fxFm48 fxFb48 fxFi48 fxFj48 fxFn49 fxFm49 fxFb49 fxFi49 fxFj49 fxFn50 fxFm50 fxFb50 fxFi50 fxFj50 fxFn51 fxFm51 fxFb51 fxFi51 fxFj51 fxFn52 fxFm52 fxFb52 fxFi52 fxFj52 fxFn53 fxFm53 fxFb53 fxFi53 fxFj53 fxFn54 fxFm54 fxFb54 fxFi54 fxFj54 fxFn55 fxFm55 fxFb55 fxFi55 fxFj55 fxFn56 fxFm56 fxFb56 fxFi56 fxFj56 fxFn57 fxFm57 fxFb57 fxFi57 fxFj57 fxFn58 fxFm58 fxFb58 fxFi58 fxFj58 fxFn59 fxFm59 fxFb59 fxFi59 fxFj59 fxFn60 fxFm60 fxFb60 fxFi60 fxFj60
attribute [local simp] Ln.eta Ln.cold Ln.mapM Ln.mapMc Ln.view Ln.viewc Ln.hotR Ln.ren Ln.renc Ln.low Ln.tau Ln.tauc Ln.bare Ln.flat Ln.flat1 Ln.mapMt Ln.mapMd Ln.coldt Ln.coldd Ln.hotRt Ln.hotRd
attribute [local simp] Od.eta Od.cold Od.mapM Od.mapMc Od.view Od.viewc Od.hotR Od.ren Od.renc Od.low Od.tau Od.tauc Od.bare Od.flat Od.flat1 Od.mapMt Od.mapMd Od.coldt Od.coldd Od.hotRt Od.hotRd
attribute [local simp] Cpu.eta Cpu.dec_row Cpu.dec_hrow Cpu.cold Cpu.hcold Cpu.mapM Cpu.mapMc Cpu.hmapM Cpu.hmapMc Cpu.view Cpu.viewc Cpu.hview Cpu.hviewc Cpu.hotR Cpu.ren Cpu.renc Cpu.low Cpu.hlow
/-- which lists of a processor stay own: its lines, its orders -/
abbrev Mode := Nat → Bool × Bool
def lnA (b : Bool) (c : Nat) (L : List Ln) : AVal := if b then (if L = [] then .esl else .osl c 3 0 L.length L.length) else .fsl true 3 (L.map Ln.row)
def odA (b : Bool) (c : Nat) (O : List Od) : AVal := if b then (if O = [] then .esl else .osl c 2 0 O.length O.length) else .fsl true 2 (O.map Od.row)
def lnT (b : Bool) (L : List Ln) : Heap := if L = [] then [] else [if b then some (3, L.map Ln.row) else none]
def odT (b : Bool) (O : List Od) : Heap := if O = [] then [] else [if b then some (2, O.map Od.row) else none]
def segR (m : Bool × Bool) (c : Nat) (x : Cpu) : Row := [lnA m.1 c x.lines, odA m.2 (c + (lnT m.1 x.lines).length) x.orders]
def segT (m : Bool × Bool) (x : Cpu) : Heap := lnT m.1 x.lines ++ odT m.2 x.orders
def shT (md : Mode) : Nat → List Cpu → Heap
  | _, [] => []
  | i, x :: r => segT (md i) x ++ shT md (i + 1) r
def shR (md : Mode) : Nat → Nat → List Cpu → List Row
  | _, _, [] => []
  | i, c, x :: r => segR (md i) c x :: shR md (i + 1) (c + (segT (md i) x).length) r
theorem shT_snoc (md : Mode) (i : Nat) (l : List Cpu) (x : Cpu) : shT md i (l ++ [x]) = shT md i l ++ segT (md (i + l.length)) x := by
  induction l generalizing i with
  | nil => simp [shT]
  | cons a l ih =>
    simp only [List.cons_append, shT, ih, List.length_cons, List.append_assoc]
    rw [show i + 1 + l.length = i + (l.length + 1) by omega]
theorem shR_snoc (md : Mode) (i c : Nat) (l : List Cpu) (x : Cpu) : shR md i c (l ++ [x]) = shR md i c l ++ [segR (md (i + l.length)) (c + (shT md i l).length) x] := by
  induction l generalizing i c with
  | nil => simp [shR, shT]
  | cons a l ih =>
    simp only [List.cons_append, shR, ih, List.length_cons, shT, List.length_append]
    rw [show i + 1 + l.length = i + (l.length + 1) by omega, Nat.add_assoc]
theorem shR_len (md : Mode) (i c : Nat) (l : List Cpu) : (shR md i c l).length = l.length := by
  induction l generalizing i c with
  | nil => rfl
  | cons a l ih => simp [shR, ih]
theorem lnA_low {b : Bool} {c n : Nat} {L : List Ln} (h : c + (lnT b L).length ≤ n) : lowA n (lnA b c L) = true := by
  unfold lnA
  cases b with
  | false => simp [lowA]
  | true =>
    by_cases e : L = []
    · simp [e, lowA]
    · simp [lnT, e] at h
      simp [e, lowA]; omega
theorem odA_low {b : Bool} {c n : Nat} {O : List Od} (h : c + (odT b O).length ≤ n) : lowA n (odA b c O) = true := by
  unfold odA
  cases b with
  | false => simp [lowA]
  | true =>
    by_cases e : O = []
    · simp [e, lowA]
    · simp [odT, e] at h
      simp [e, lowA]; omega
theorem segR_low {m : Bool × Bool} {c n : Nat} {x : Cpu} (h : c + (segT m x).length ≤ n) : (segR m c x).all (lowA n) = true := by
  simp only [segT, List.length_append] at h
  simp [segR, lnA_low (b := m.1) (c := c) (n := n) (L := x.lines) (by omega), odA_low (b := m.2) (c := c + (lnT m.1 x.lines).length) (n := n) (O := x.orders) (by omega)]
theorem shR_low {md : Mode} {i c n : Nat} {l : List Cpu} (h : c + (shT md i l).length ≤ n) : ∀ r ∈ shR md i c l, r.all (lowA n) = true := by
  induction l generalizing i c with
  | nil => intro r hr; simp [shR] at hr
  | cons a l ih =>
    simp only [shT, List.length_append] at h
    intro r hr
    simp only [shR, List.mem_cons] at hr
    rcases hr with rfl | hr
    · exact segR_low (by omega)
    · exact ih (by omega) r hr
theorem shT_low {md : Mode} {i n : Nat} {l : List Cpu} : ∀ o, some o ∈ shT md i l → (o.2.all fun row => row.all (lowA n)) = true := by
  induction l generalizing i with
  | nil => intro o ho; simp [shT] at ho
  | cons a l ih =>
    intro o ho
    simp only [shT, List.mem_append, segT] at ho
    rcases ho with (ho | ho) | ho
    · unfold lnT at ho
      split at ho
      · simp at ho
      · split at ho
        · simp at ho; subst ho; simp [Ln.low]
        · simp at ho
    · unfold odT at ho
      split at ho
      · simp at ho
      · split at ho
        · simp at ho; subst ho; simp [Od.low]
        · simp at ho
    · exact ih o ho
end Go.Proofs.Ytdhpgdfjogklaaa
namespace Go.Proofs.Ytdhpgdfjogklaaa
open Go.AI
set_option maxHeartbeats 2000000
set_option maxRecDepth 100000
set_option linter.unusedSimpArgs false
set_option linter.unusedVariables false
attribute [local simp] wpA wpX RunA RunD runF foot footP footB idsA bare apart runL step1 gsel_f gsel_t gsel_s res_same res_and1 res_and2 res_and3 res_and4 res_and5 res_and6 res_false res_true res_v res_ptr res_fptr res_osl res_xsl soft aAppendZ aCap ovlI ovlJ res_fsl res_esl res_agg res_tup res_fn res_junk res_anyb aPick hk imp_left iteV dstOk guardOk astep astepE AI.ev AI.look AI.put envOf aBox cellsOf allOne allOneA oneA Value.oneCell' Value.cells newObj' aFieldAddr aLoad obj readAt thenA blockA condA retA resA tupA view hot hotC hotR depthV cAgg cInt cBool mkAgg allV aAlloc aBuild fillA writeAt aStore isAggA aField idx aIndexAddr aIndex bnd aSlice aExtract aLen aBuiltin aCall isStatic eqAgg eqTy eqC ev_add ev_sub ev_mul ev_quo ev_rem ev_and ev_or ev_xor ev_andNot ev_shl ev_shr ev_eql ev_neq ev_lss ev_leq ev_gtr ev_geq ev_agg w64 wu32 wu8 ev_not ev_neg Cod.plain RCod.plain argM finM cold coldC coldR goInt intDec boolDec aggDec Weaker heapW lowA lowC Again slDec undef aBuildSlice setRows aAppend rowsOf aMakeSlice aClear aCopy softer_self softer_nil valsOf ev_min2 ev_max2 hotR_set hotR_append take_map_set irow_cold irow_mapM irow_mapMc irow_view irow_viewc irow_hotR irow_ren irow_renc irow_low WeakT heapT thOf ren renC AgainT NextF NextT fnDec cFn rNil selfLt natLt0 natLt1 getLastMap frame0 frame1 own0 own1 argG finG tau tauI tauO tauC bareA bareC bareH irow_tau irow_tauc irow_bare irow_flat irow_bareR ownA_nil ownT_nil ownA_c ownT_c ownA_s ownT_s takeMapLen footC plainA noId noIdC cloneF frame0F frame1F insertF replaceI replaceF cellDec rCell fpDec cFp rTwo deleteF allV_oA oneA_oA res_oA RunR RunE runFT footAt hotR_cat tmodN frameN newA newC newH fxSz2 fxBy2 fxAg2 fxZe2 fxSl2 fxAr2 fxPl2 fxSz3 fxBy3 fxAg3 fxZe3 fxSl3 fxAr3 fxPl3 fxSz4 fxBy4 fxAg4 fxZe4 fxSl4 fxAr4 fxPl4 fxSz5 fxBy5 fxAg5 fxZe5 fxSl5 fxAr5 fxPl5 fxSz9 fxBy9 fxAg9 fxZe9 fxSl9 fxAr9 fxPl9 fxSz12 fxBy12 fxAg12 fxZe12 fxSl12 fxAr12 fxPl12 fxSz13 fxBy13 fxAg13 fxZe13 fxSl13 fxAr13 fxFi13x0 fxFi13x1 fxPl13 fxSz21 fxBy21 fxAg21 fxZe21 fxSl21 fxAr21 fxPl21 fxSz22 fxBy22 fxAg22 fxZe22 fxSl22 fxAr22 fxPl22 fxSz23 fxBy23 fxAg23 fxZe23 fxSl23 fxAr23 fxFi23x0 fxFi23x1 fxPl23 fxSz24 fxBy24 fxAg24 fxZe24 fxSl24 fxAr24 fxFi24x0 fxFi24x1 fxPl24 fxSz25 fxBy25 fxAg25 fxZe25 fxSl25 fxAr25 fxPl25 fxSz26 fxBy26 fxAg26 fxZe26 fxSl26 fxAr26 fxPl26 fxSz27 fxBy27 fxAg27 fxZe27 fxSl27 fxAr27 fxFi27x0 fxFi27x1 fxFi27x2 fxFi27x3 fxFi27x4 fxFi27x5 fxFi27x6 fxPl27 fxSz28 fxBy28 fxAg28 fxZe28 fxSl28 fxAr28 fxFi28x0 fxFi28x1 fxFi28x2 fxFi28x3 fxFi28x4 fxFi28x5 fxFi28x6 fxPl28 fxSz29 fxBy29 fxAg29 fxZe29 fxSl29 fxAr29 fxPl29 fxSz44 fxBy44 fxAg44 fxZe44 fxSl44 fxAr44 fxPl44 fxSz45 fxBy45 fxAg45 fxZe45 fxSl45 fxAr45 fxPl45 fxSz52 fxBy52 fxAg52 fxZe52 fxSl52 fxAr52 fxPl52 fxSz54 fxBy54 fxAg54 fxZe54 fxSl54 fxAr54 fxFi54x0 fxFi54x1 fxPl54 fxSz55 fxBy55 fxAg55 fxZe55 fxSl55 fxAr55 fxFi55x0 fxFi55x1 fxPl55 fxSz56 fxBy56 fxAg56 fxZe56 fxSl56 fxAr56 fxPl56 fxSz60 fxBy60 fxAg60 fxZe60 fxSl60 fxAr60 fxPl60 fxSz61 fxBy61 fxAg61 fxZe61 fxSl61 fxAr61 fxPl61 fxSz62 fxBy62 fxAg62 fxZe62 fxSl62 fxAr62 fxFi62x0 fxFi62x1 fxPl62 fxSz63 fxBy63 fxAg63 fxZe63 fxSl63 fxAr63 fxFi63x0 fxFi63x1 fxPl63 fxSz76 fxBy76 fxAg76 fxZe76 fxSl76 fxAr76 fxPl76 fxSz83 fxBy83 fxAg83 fxZe83 fxSl83 fxAr83 fxFi83x0 fxFi83x1 fxFi83x2 fxPl83 fxSz84 fxBy84 fxAg84 fxZe84 fxSl84 fxAr84 fxFi84x0 fxFi84x1 fxFi84x2 fxPl84 fxSz99 fxBy99 fxAg99 fxZe99 fxSl99 fxAr99 fxPl99 fxSz106 fxBy106 fxAg106 fxZe106 fxSl106 fxAr106 fxPl106 fxSz107 fxBy107 fxAg107 fxZe107 fxSl107 fxAr107 fxFi107x0 fxPl107 fxSz113 fxBy113 fxAg113 fxZe113 fxSl113 fxAr113 fxPl113 fxSz118 fxBy118 fxAg118 fxZe118 fxSl118 fxAr118 fxPl118 fxEq28 fxEq55 fxEq56 fxEq84 fxCv2x2 fxCv2x3 fxCv2x5 fxCv2x12 fxCv2x21 fxCv2x29 fxCv2x45 fxCv3x2 fxCv3x3 fxCv3x5 fxCv3x12 fxCv3x21 fxCv3x29 fxCv3x45 fxCv5x2 fxCv5x3 fxCv5x5 fxCv5x12 fxCv5x21 fxCv5x29 fxCv5x45 fxCv12x2 fxCv12x3 fxCv12x5 fxCv12x12 fxCv12x21 fxCv12x29 fxCv12x45 fxCv21x2 fxCv21x3 fxCv21x5 fxCv21x12 fxCv21x21 fxCv21x29 fxCv21x45 fxCv29x2 fxCv29x3 fxCv29x5 fxCv29x12 fxCv29x21 fxCv29x29 fxCv29x45 fxCv45x2 fxCv45x3 fxCv45x5 fxCv45x12 fxCv45x21 fxCv45x29 fxCv45x45 fxEb4 fxNb4 fxLt9 fxLn22 fxNe22 fxNn22 fxOe22 fxOn22 fxXe22 fxXn22 fxLn44 fxNe44 fxNn44 fxOe44 fxOn44 fxXe44 fxXn44 fxLn52 fxNe52 fxNn52 fxOe52 fxOn52 fxXe52 fxXn52 fxLn60 fxNe60 fxNn60 fxOe60 fxOn60 fxXe60 fxXn60 fxLn61 fxNe61 fxNn61 fxOe61 fxOn61 fxXe61 fxXn61 fxLn76 fxNe76 fxNn76 fxOe76 fxOn76 fxXe76 fxXn76 fxFn3 fxFm3 fxFb3 fxFi3 fxFj3 fxFn4 fxFm4 fxFb4 fxFi4 fxFj4 fxFn5 fxFm5 fxFb5 fxFi5 fxFj5 fxFn6 fxFm6 fxFb6 fxFi6 fxFj6 fxFn7 fxFm7 fxFb7 fxFi7 fxFj7 fxFn8 fxFm8 fxFb8 fxFi8 fxFj8 fxFn9 fxFm9 fxFb9 fxFi9 fxFj9 fxFn10 fxFm10 fxFb10 fxFi10 fxFj10 fxFn11 fxFm11 fxFb11 fxFi11 fxFj11 fxFn12 fxFm12 fxFb12 fxFi12 fxFj12 fxFn13 fxFm13 fxFb13 fxFi13 fxFj13 fxFn14 fxFm14 fxFb14 fxFi14 fxFj14 fxFn15 fxFm15 fxFb15 fxFi15 fxFj15 fxFn16 fxFm16 fxFb16 fxFi16 fxFj16 fxFn17 fxFm17 fxFb17 fxFi17 fxFj17 fxFn18 fxFm18 fxFb18 fxFi18 fxFj18 fxFn19 fxFm19 fxFb19 fxFi19 fxFj19 fxFn20 fxFm20 fxFb20 fxFi20 fxFj20 fxFn21 fxFm21 fxFb21 fxFi21 fxFj21 fxFn22 fxFm22 fxFb22 fxFi22 fxFj22 fxFn23 fxFm23 fxFb23 fxFi23 fxFj23 fxFn24 fxFm24 fxFb24 fxFi24 fxFj24 fxFn25 fxFm25 fxFb25 fxFi25 fxFj25 fxFn26 fxFm26 fxFb26 fxFi26 fxFj26 fxFn27 fxFm27 fxFb27 fxFi27 fxFj27 fxFn28 fxFm28 fxFb28 fxFi28 fxFj28 fxFn29 fxFm29 fxFb29 fxFi29 fxFj29 fxFn30 fxFm30 fxFb30 fxFi30 fxFj30 fxFn31 fxFm31 fxFb31 fxFi31 fxFj31 fxFn32 fxFm32 fxFb32 fxFi32 fxFj32 fxFn33 fxFm33 fxFb33 fxFi33 fxFj33 fxFn34 fxFm34 fxFb34 fxFi34 fxFj34 fxFn35 fxFm35 fxFb35 fxFi35 fxFj35 fxFn36 fxFm36 fxFb36 fxFi36 fxFj36 fxFn37 fxFm37 fxFb37 fxFi37 fxFj37 fxFn38 fxFm38 fxFb38 fxFi38 fxFj38 fxFn39 fxFm39 fxFb39 fxFi39 fxFj39 fxFn40 fxFm40 fxFb40 fxFi40 fxFj40 fxFn41 fxFm41 fxFb41 fxFi41 fxFj41 fxFn42 fxFm42 fxFb42 fxFi42 fxFj42 fxFn43 fxFm43 fxFb43 fxFi43 fxFj43 fxFn44 fxFm44 fxFb44 fxFi44 fxFj44 fxFn45 fxFm45 fxFb45 fxFi45 fxFj45 fxFn46 fxFm46 fxFb46 fxFi46 fxFj46 fxFn47 fxFm47 fxFb47 fxFi47 fxFj47 fxFn48 fxFm48 fxFb48 fxFi48 fxFj48 fxFn49 fxFm49 fxFb49 fxFi49 fxFj49 fxFn50 fxFm50 fxFb50 fxFi50 fxFj50 fxFn51 fxFm51 fxFb51 fxFi51 fxFj51 fxFn52 fxFm52 fxFb52 fxFi52 fxFj52 fxFn53 fxFm53 fxFb53 fxFi53 fxFj53 fxFn54 fxFm54 fxFb54 fxFi54 fxFj54 fxFn55 fxFm55 fxFb55 fxFi55 fxFj55 fxFn56 fxFm56 fxFb56 fxFi56 fxFj56 fxFn57 fxFm57 fxFb57 fxFi57 fxFj57 fxFn58 fxFm58 fxFb58 fxFi58 fxFj58 fxFn59 fxFm59 fxFb59 fxFi59 fxFj59 fxFn60 fxFm60 fxFb60 fxFi60 fxFj60
attribute [local simp] Ln.eta Ln.cold Ln.mapM Ln.mapMc Ln.view Ln.viewc Ln.hotR Ln.ren Ln.renc Ln.low Ln.tau Ln.tauc Ln.bare Ln.flat Ln.flat1 Ln.mapMt Ln.mapMd Ln.coldt Ln.coldd Ln.hotRt Ln.hotRd
attribute [local simp] Od.eta Od.cold Od.mapM Od.mapMc Od.view Od.viewc Od.hotR Od.ren Od.renc Od.low Od.tau Od.tauc Od.bare Od.flat Od.flat1 Od.mapMt Od.mapMd Od.coldt Od.coldd Od.hotRt Od.hotRd
attribute [local simp] Cpu.eta Cpu.dec_row Cpu.dec_hrow Cpu.cold Cpu.hcold Cpu.mapM Cpu.mapMc Cpu.hmapM Cpu.hmapMc Cpu.view Cpu.viewc Cpu.hview Cpu.hviewc Cpu.hotR Cpu.ren Cpu.renc Cpu.low Cpu.hlow
theorem lnEnt {n0 : Nat} {ρ : Env} {H T Y : Heap} {R : List Row} {k : Nat} {b : Bool} {L : List Ln} {z : AVal} (hH : H = some (2, R) :: (T ++ (lnT true L ++ Y))) (hR : R[k]? = some [lnA true (1 + T.length) L, z]) :
    Ent n0 (ρ, some (2, R.set k [lnA b (1 + T.length) L, z]) :: (T ++ (lnT b L ++ Y))) (ρ, H) := by
  subst hH
  have hk : k < R.length := (List.getElem?_eq_some_iff.1 hR).1
  cases b with
  | true =>
    have e : R.set k [lnA true (1 + T.length) L, z] = R := by
      apply List.ext_getElem?
      intro i
      by_cases h : i = k
      · subst h; rw [List.getElem?_set_self hk, hR]
      · rw [List.getElem?_set_ne (fun e => h e.symm)]
    rw [e]
    exact Ent.refl n0 _
  | false =>
    by_cases hL : L = []
    · subst hL
      have h1 : obj (some (2, R) :: (T ++ (lnT true [] ++ Y))) 0 = some (2, R) := by simp [obj]
      have h2 := Ent.cell (n0 := n0) (ρ := ρ) (j := 0) (a := .esl) (r := .fsl true 3 []) h1 hR (by simp [lnA]) .esl
      simpa [lnA, lnT] using h2
    · have h1 : obj (some (2, R) :: (T ++ (lnT true L ++ Y))) 0 = some (2, R) := by simp [obj]
      have h0 : obj (some (2, R) :: (T ++ (lnT true L ++ Y))) (1 + T.length) = some (3, L.map Ln.row) := by
        simp [obj, lnT, hL, Nat.add_comm 1]
      have h2 := Ent.frz (n0 := n0) (ρ := ρ) (n := 1 + T.length) (M := 0) (i := k) (j := 0) (len := L.length) (kc := L.length) h0 (by simp) (by intro r hr; obtain ⟨x, _, rfl⟩ := List.mem_map.1 hr; exact Ln.low 0 x) h1 (by omega) hR (by simp [lnA, hL])
      simpa [lnA, lnT, hL, Nat.add_comm 1] using h2
theorem odEnt {n0 : Nat} {ρ : Env} {H T : Heap} {R : List Row} {k : Nat} {b : Bool} {O : List Od} {z : AVal} (hH : H = some (2, R) :: (T ++ odT true O)) (hR : R[k]? = some [z, odA true (1 + T.length) O]) :
    Ent n0 (ρ, some (2, R.set k [z, odA b (1 + T.length) O]) :: (T ++ odT b O)) (ρ, H) := by
  subst hH
  have hk : k < R.length := (List.getElem?_eq_some_iff.1 hR).1
  cases b with
  | true =>
    have e : R.set k [z, odA true (1 + T.length) O] = R := by
      apply List.ext_getElem?
      intro i
      by_cases h : i = k
      · subst h; rw [List.getElem?_set_self hk, hR]
      · rw [List.getElem?_set_ne (fun e => h e.symm)]
    rw [e]
    exact Ent.refl n0 _
  | false =>
    by_cases hL : O = []
    · subst hL
      have h1 : obj (some (2, R) :: (T ++ odT true [])) 0 = some (2, R) := by simp [obj]
      have h2 := Ent.cell (n0 := n0) (ρ := ρ) (j := 1) (a := .esl) (r := .fsl true 2 []) h1 hR (by simp [odA]) .esl
      simpa [odA, odT] using h2
    · have h1 : obj (some (2, R) :: (T ++ odT true O)) 0 = some (2, R) := by simp [obj]
      have h0 : obj (some (2, R) :: (T ++ odT true O)) (1 + T.length) = some (2, O.map Od.row) := by
        simp [obj, odT, hL, Nat.add_comm 1]
      have h2 := Ent.frz (n0 := n0) (ρ := ρ) (n := 1 + T.length) (M := 0) (i := k) (j := 1) (len := O.length) (kc := O.length) h0 (by simp) (by intro r hr; obtain ⟨x, _, rfl⟩ := List.mem_map.1 hr; exact Od.low 0 x) h1 (by omega) hR (by simp [odA, hL])
      simpa [odA, odT, hL, Nat.add_comm 1] using h2
theorem lnT_len (b : Bool) (L : List Ln) : (lnT b L).length = (lnT true L).length := by unfold lnT; split <;> simp
theorem odT_len (b : Bool) (O : List Od) : (odT b O).length = (odT true O).length := by unfold odT; split <;> simp
/-- both lists of a processor: some stay own -/
theorem segEnt {n0 : Nat} {ρ : Env} {H T : Heap} {R : List Row} {k : Nat} {m : Bool × Bool} {x : Cpu} (hH : H = some (2, R) :: (T ++ segT (true, true) x)) (hR : R[k]? = some (segR (true, true) (1 + T.length) x)) :
    Ent n0 (ρ, some (2, R.set k (segR m (1 + T.length) x)) :: (T ++ segT m x)) (ρ, H) := by
  obtain ⟨b1, b2⟩ := m
  obtain ⟨L, O⟩ := x
  have hk : k < R.length := (List.getElem?_eq_some_iff.1 hR).1
  have h1 := lnEnt (n0 := n0) (ρ := ρ) (H := H) (T := T) (Y := odT true O) (R := R) (k := k) (b := b1) (L := L) (z := odA true (1 + T.length + (lnT true L).length) O) (by simpa [segT] using hH) (by simpa [segR] using hR)
  have h2 := odEnt (n0 := n0) (ρ := ρ) (H := some (2, R.set k [lnA b1 (1 + T.length) L, odA true (1 + T.length + (lnT true L).length) O]) :: (T ++ (lnT b1 L ++ odT true O))) (T := T ++ lnT b1 L) (R := R.set k [lnA b1 (1 + T.length) L, odA true (1 + T.length + (lnT true L).length) O]) (k := k) (b := b2) (O := O) (z := lnA b1 (1 + T.length) L) (by simp) (by rw [List.getElem?_set_self hk, List.length_append, lnT_len b1, Nat.add_assoc])
  have h3 := Ent.trans h2 h1
  rw [List.set_set, List.length_append, List.append_assoc, ← Nat.add_assoc] at h3
  exact h3
end Go.Proofs.Ytdhpgdfjogklaaa
namespace Go.Proofs.Ytdhpgdfjogklaaa
open Go.AI
set_option maxHeartbeats 2000000
set_option maxRecDepth 100000
set_option linter.unusedSimpArgs false
set_option linter.unusedVariables false
attribute [local simp] wpA wpX RunA RunD runF foot footP footB idsA bare apart runL step1 gsel_f gsel_t gsel_s res_same res_and1 res_and2 res_and3 res_and4 res_and5 res_and6 res_false res_true res_v res_ptr res_fptr res_osl res_xsl soft aAppendZ aCap ovlI ovlJ res_fsl res_esl res_agg res_tup res_fn res_junk res_anyb aPick hk imp_left iteV dstOk guardOk astep astepE AI.ev AI.look AI.put envOf aBox cellsOf allOne allOneA oneA Value.oneCell' Value.cells newObj' aFieldAddr aLoad obj readAt thenA blockA condA retA resA tupA view hot hotC hotR depthV cAgg cInt cBool mkAgg allV aAlloc aBuild fillA writeAt aStore isAggA aField idx aIndexAddr aIndex bnd aSlice aExtract aLen aBuiltin aCall isStatic eqAgg eqTy eqC ev_add ev_sub ev_mul ev_quo ev_rem ev_and ev_or ev_xor ev_andNot ev_shl ev_shr ev_eql ev_neq ev_lss ev_leq ev_gtr ev_geq ev_agg w64 wu32 wu8 ev_not ev_neg Cod.plain RCod.plain argM finM cold coldC coldR goInt intDec boolDec aggDec Weaker heapW lowA lowC Again slDec undef aBuildSlice setRows aAppend rowsOf aMakeSlice aClear aCopy softer_self softer_nil valsOf ev_min2 ev_max2 hotR_set hotR_append take_map_set irow_cold irow_mapM irow_mapMc irow_view irow_viewc irow_hotR irow_ren irow_renc irow_low WeakT heapT thOf ren renC AgainT NextF NextT fnDec cFn rNil selfLt natLt0 natLt1 getLastMap frame0 frame1 own0 own1 argG finG tau tauI tauO tauC bareA bareC bareH irow_tau irow_tauc irow_bare irow_flat irow_bareR ownA_nil ownT_nil ownA_c ownT_c ownA_s ownT_s takeMapLen footC plainA noId noIdC cloneF frame0F frame1F insertF replaceI replaceF cellDec rCell fpDec cFp rTwo deleteF allV_oA oneA_oA res_oA RunR RunE runFT footAt hotR_cat tmodN frameN newA newC newH fxSz2 fxBy2 fxAg2 fxZe2 fxSl2 fxAr2 fxPl2 fxSz3 fxBy3 fxAg3 fxZe3 fxSl3 fxAr3 fxPl3 fxSz4 fxBy4 fxAg4 fxZe4 fxSl4 fxAr4 fxPl4 fxSz5 fxBy5 fxAg5 fxZe5 fxSl5 fxAr5 fxPl5 fxSz9 fxBy9 fxAg9 fxZe9 fxSl9 fxAr9 fxPl9 fxSz12 fxBy12 fxAg12 fxZe12 fxSl12 fxAr12 fxPl12 fxSz13 fxBy13 fxAg13 fxZe13 fxSl13 fxAr13 fxFi13x0 fxFi13x1 fxPl13 fxSz21 fxBy21 fxAg21 fxZe21 fxSl21 fxAr21 fxPl21 fxSz22 fxBy22 fxAg22 fxZe22 fxSl22 fxAr22 fxPl22 fxSz23 fxBy23 fxAg23 fxZe23 fxSl23 fxAr23 fxFi23x0 fxFi23x1 fxPl23 fxSz24 fxBy24 fxAg24 fxZe24 fxSl24 fxAr24 fxFi24x0 fxFi24x1 fxPl24 fxSz25 fxBy25 fxAg25 fxZe25 fxSl25 fxAr25 fxPl25 fxSz26 fxBy26 fxAg26 fxZe26 fxSl26 fxAr26 fxPl26 fxSz27 fxBy27 fxAg27 fxZe27 fxSl27 fxAr27 fxFi27x0 fxFi27x1 fxFi27x2 fxFi27x3 fxFi27x4 fxFi27x5 fxFi27x6 fxPl27 fxSz28 fxBy28 fxAg28 fxZe28 fxSl28 fxAr28 fxFi28x0 fxFi28x1 fxFi28x2 fxFi28x3 fxFi28x4 fxFi28x5 fxFi28x6 fxPl28 fxSz29 fxBy29 fxAg29 fxZe29 fxSl29 fxAr29 fxPl29 fxSz44 fxBy44 fxAg44 fxZe44 fxSl44 fxAr44 fxPl44 fxSz45 fxBy45 fxAg45 fxZe45 fxSl45 fxAr45 fxPl45 fxSz52 fxBy52 fxAg52 fxZe52 fxSl52 fxAr52 fxPl52 fxSz54 fxBy54 fxAg54 fxZe54 fxSl54 fxAr54 fxFi54x0 fxFi54x1 fxPl54 fxSz55 fxBy55 fxAg55 fxZe55 fxSl55 fxAr55 fxFi55x0 fxFi55x1 fxPl55 fxSz56 fxBy56 fxAg56 fxZe56 fxSl56 fxAr56 fxPl56 fxSz60 fxBy60 fxAg60 fxZe60 fxSl60 fxAr60 fxPl60 fxSz61 fxBy61 fxAg61 fxZe61 fxSl61 fxAr61 fxPl61 fxSz62 fxBy62 fxAg62 fxZe62 fxSl62 fxAr62 fxFi62x0 fxFi62x1 fxPl62 fxSz63 fxBy63 fxAg63 fxZe63 fxSl63 fxAr63 fxFi63x0 fxFi63x1 fxPl63 fxSz76 fxBy76 fxAg76 fxZe76 fxSl76 fxAr76 fxPl76 fxSz83 fxBy83 fxAg83 fxZe83 fxSl83 fxAr83 fxFi83x0 fxFi83x1 fxFi83x2 fxPl83 fxSz84 fxBy84 fxAg84 fxZe84 fxSl84 fxAr84 fxFi84x0 fxFi84x1 fxFi84x2 fxPl84 fxSz99 fxBy99 fxAg99 fxZe99 fxSl99 fxAr99 fxPl99 fxSz106 fxBy106 fxAg106 fxZe106 fxSl106 fxAr106 fxPl106 fxSz107 fxBy107 fxAg107 fxZe107 fxSl107 fxAr107 fxFi107x0 fxPl107 fxSz113 fxBy113 fxAg113 fxZe113 fxSl113 fxAr113 fxPl113 fxSz118 fxBy118 fxAg118 fxZe118 fxSl118 fxAr118 fxPl118 fxEq28 fxEq55 fxEq56 fxEq84 fxCv2x2 fxCv2x3 fxCv2x5 fxCv2x12 fxCv2x21 fxCv2x29 fxCv2x45 fxCv3x2 fxCv3x3 fxCv3x5 fxCv3x12 fxCv3x21 fxCv3x29 fxCv3x45 fxCv5x2 fxCv5x3 fxCv5x5 fxCv5x12 fxCv5x21 fxCv5x29 fxCv5x45 fxCv12x2 fxCv12x3 fxCv12x5 fxCv12x12 fxCv12x21 fxCv12x29 fxCv12x45 fxCv21x2 fxCv21x3 fxCv21x5 fxCv21x12 fxCv21x21 fxCv21x29 fxCv21x45 fxCv29x2 fxCv29x3 fxCv29x5 fxCv29x12 fxCv29x21 fxCv29x29 fxCv29x45 fxCv45x2 fxCv45x3 fxCv45x5 fxCv45x12 fxCv45x21 fxCv45x29 fxCv45x45 fxEb4 fxNb4 fxLt9 fxLn22 fxNe22 fxNn22 fxOe22 fxOn22 fxXe22 fxXn22 fxLn44 fxNe44 fxNn44 fxOe44 fxOn44 fxXe44 fxXn44 fxLn52 fxNe52 fxNn52 fxOe52 fxOn52 fxXe52 fxXn52 fxLn60 fxNe60 fxNn60 fxOe60 fxOn60 fxXe60 fxXn60 fxLn61 fxNe61 fxNn61 fxOe61 fxOn61 fxXe61 fxXn61 fxLn76 fxNe76 fxNn76 fxOe76 fxOn76 fxXe76 fxXn76 fxFn3 fxFm3 fxFb3 fxFi3 fxFj3 fxFn4 fxFm4 fxFb4 fxFi4 fxFj4 fxFn5 fxFm5 fxFb5 fxFi5 fxFj5 fxFn6 fxFm6 fxFb6 fxFi6 fxFj6 fxFn7 fxFm7 fxFb7 fxFi7 fxFj7 fxFn8 fxFm8 fxFb8 fxFi8 fxFj8 fxFn9 fxFm9 fxFb9 fxFi9 fxFj9 fxFn10 fxFm10 fxFb10 fxFi10 fxFj10 fxFn11 fxFm11 fxFb11 fxFi11 fxFj11 fxFn12 fxFm12 fxFb12 fxFi12 fxFj12 fxFn13 fxFm13 fxFb13 fxFi13 fxFj13 fxFn14 fxFm14 fxFb14 fxFi14 fxFj14 fxFn15 fxFm15 fxFb15 fxFi15 fxFj15 fxFn16 fxFm16 fxFb16 fxFi16 fxFj16 fxFn17 fxFm17 fxFb17 fxFi17 fxFj17 fxFn18 fxFm18 fxFb18 fxFi18 fxFj18 fxFn19 fxFm19 fxFb19 fxFi19 fxFj19 fxFn20 fxFm20 fxFb20 fxFi20 fxFj20 fxFn21 fxFm21 fxFb21 fxFi21 fxFj21 fxFn22 fxFm22 fxFb22 fxFi22 fxFj22 fxFn23 fxFm23 fxFb23 fxFi23 fxFj23 fxFn24 fxFm24 fxFb24 fxFi24 fxFj24 fxFn25 fxFm25 fxFb25 fxFi25 fxFj25 fxFn26 fxFm26 fxFb26 fxFi26 fxFj26 fxFn27 fxFm27 fxFb27 fxFi27 fxFj27 fxFn28 fxFm28 fxFb28 fxFi28 fxFj28 fxFn29 fxFm29 fxFb29 fxFi29 fxFj29 fxFn30 fxFm30 fxFb30 fxFi30 fxFj30 fxFn31 fxFm31 fxFb31 fxFi31 fxFj31 fxFn32 fxFm32 fxFb32 fxFi32 fxFj32 fxFn33 fxFm33 fxFb33 fxFi33 fxFj33 fxFn34 fxFm34 fxFb34 fxFi34 fxFj34 fxFn35 fxFm35 fxFb35 fxFi35 fxFj35 fxFn36 fxFm36 fxFb36 fxFi36 fxFj36 fxFn37 fxFm37 fxFb37 fxFi37 fxFj37 fxFn38 fxFm38 fxFb38 fxFi38 fxFj38 fxFn39 fxFm39 fxFb39 fxFi39 fxFj39 fxFn40 fxFm40 fxFb40 fxFi40 fxFj40 fxFn41 fxFm41 fxFb41 fxFi41 fxFj41 fxFn42 fxFm42 fxFb42 fxFi42 fxFj42 fxFn43 fxFm43 fxFb43 fxFi43 fxFj43 fxFn44 fxFm44 fxFb44 fxFi44 fxFj44 fxFn45 fxFm45 fxFb45 fxFi45 fxFj45 fxFn46 fxFm46 fxFb46 fxFi46 fxFj46 fxFn47 fxFm47 fxFb47 fxFi47 fxFj47 fxFn48 fxFm48 fxFb48 fxFi48 fxFj48 fxFn49 fxFm49 fxFb49 fxFi49 fxFj49 fxFn50 fxFm50 fxFb50 fxFi50 fxFj50 fxFn51 fxFm51 fxFb51 fxFi51 fxFj51 fxFn52 fxFm52 fxFb52 fxFi52 fxFj52 fxFn53 fxFm53 fxFb53 fxFi53 fxFj53 fxFn54 fxFm54 fxFb54 fxFi54 fxFj54 fxFn55 fxFm55 fxFb55 fxFi55 fxFj55 fxFn56 fxFm56 fxFb56 fxFi56 fxFj56 fxFn57 fxFm57 fxFb57 fxFi57 fxFj57 fxFn58 fxFm58 fxFb58 fxFi58 fxFj58 fxFn59 fxFm59 fxFb59 fxFi59 fxFj59 fxFn60 fxFm60 fxFb60 fxFi60 fxFj60
attribute [local simp] Ln.eta Ln.cold Ln.mapM Ln.mapMc Ln.view Ln.viewc Ln.hotR Ln.ren Ln.renc Ln.low Ln.tau Ln.tauc Ln.bare Ln.flat Ln.flat1 Ln.mapMt Ln.mapMd Ln.coldt Ln.coldd Ln.hotRt Ln.hotRd
attribute [local simp] Od.eta Od.cold Od.mapM Od.mapMc Od.view Od.viewc Od.hotR Od.ren Od.renc Od.low Od.tau Od.tauc Od.bare Od.flat Od.flat1 Od.mapMt Od.mapMd Od.coldt Od.coldd Od.hotRt Od.hotRd
attribute [local simp] Cpu.eta Cpu.dec_row Cpu.dec_hrow Cpu.cold Cpu.hcold Cpu.mapM Cpu.mapMc Cpu.hmapM Cpu.hmapMc Cpu.view Cpu.viewc Cpu.hview Cpu.hviewc Cpu.hotR Cpu.ren Cpu.renc Cpu.low Cpu.hlow
theorem clLn : InlOk Try.prog 53 (cloneI 3) := by
  refine inl_soft Try.func53 rfl ?_
  intro args H r H' hr
  rcases cloneI_some hr with ⟨o, rows, rfl, hl, hc⟩ | ⟨id, st, k, kc, rows, rfl, hob, hle, hl, hc⟩ | ⟨rfl, rfl, rfl⟩
  · refine ⟨by simp [Try.ntmps53], wpA_sound noOrc_ok fxMix _ _ _ _ (by kernel_rfl) ?_⟩
    rcases hc with ⟨rfl, rfl, rfl⟩ | ⟨h0, rfl, rfl⟩
    · simp [Try.ntmps53, Try.results53, noOrc]
    · simp [Try.ntmps53, Try.results53, h0, hl, noOrc]
  · refine ⟨by simp [Try.ntmps53], wpA_sound noOrc_ok fxMix _ _ _ _ (by kernel_rfl) ?_⟩
    have hob' := obj_get hob
    have e1 : min k (rows.length - st) = k := by omega
    have e2 : st + k ≤ rows.length := hle
    have e3 : st ≤ rows.length := by omega
    rcases hc with ⟨rfl, rfl, rfl⟩ | ⟨h0, rfl, rfl⟩
    · simp [Try.ntmps53, Try.results53, noOrc, hob', e2, e3]
    · simp [Try.ntmps53, Try.results53, hl, noOrc, hob', e1, e2, h0]
  · refine ⟨by simp [Try.ntmps53], wpA_sound noOrc_ok fxMix _ _ _ _ (by kernel_rfl) ?_⟩
    simp [Try.ntmps53, Try.results53, noOrc]
theorem clOd : InlOk Try.prog 54 (cloneI 2) := by
  refine inl_soft Try.func54 rfl ?_
  intro args H r H' hr
  rcases cloneI_some hr with ⟨o, rows, rfl, hl, hc⟩ | ⟨id, st, k, kc, rows, rfl, hob, hle, hl, hc⟩ | ⟨rfl, rfl, rfl⟩
  · refine ⟨by simp [Try.ntmps54], wpA_sound noOrc_ok fxMix _ _ _ _ (by kernel_rfl) ?_⟩
    rcases hc with ⟨rfl, rfl, rfl⟩ | ⟨h0, rfl, rfl⟩
    · simp [Try.ntmps54, Try.results54, noOrc]
    · simp [Try.ntmps54, Try.results54, h0, hl, noOrc]
  · refine ⟨by simp [Try.ntmps54], wpA_sound noOrc_ok fxMix _ _ _ _ (by kernel_rfl) ?_⟩
    have hob' := obj_get hob
    have e1 : min k (rows.length - st) = k := by omega
    have e2 : st + k ≤ rows.length := hle
    have e3 : st ≤ rows.length := by omega
    rcases hc with ⟨rfl, rfl, rfl⟩ | ⟨h0, rfl, rfl⟩
    · simp [Try.ntmps54, Try.results54, noOrc, hob', e2, e3]
    · simp [Try.ntmps54, Try.results54, hl, noOrc, hob', e1, e2, h0]
  · refine ⟨by simp [Try.ntmps54], wpA_sound noOrc_ok fxMix _ _ _ _ (by kernel_rfl) ?_⟩
    simp [Try.ntmps54, Try.results54, noOrc]
theorem clCpu : InlOk Try.prog 52 (cloneI 2) := by
  refine inl_soft Try.func52 rfl ?_
  intro args H r H' hr
  rcases cloneI_some hr with ⟨o, rows, rfl, hl, hc⟩ | ⟨id, st, k, kc, rows, rfl, hob, hle, hl, hc⟩ | ⟨rfl, rfl, rfl⟩
  · refine ⟨by simp [Try.ntmps52], wpA_sound noOrc_ok fxMix _ _ _ _ (by kernel_rfl) ?_⟩
    rcases hc with ⟨rfl, rfl, rfl⟩ | ⟨h0, rfl, rfl⟩
    · simp [Try.ntmps52, Try.results52, noOrc]
    · simp [Try.ntmps52, Try.results52, h0, hl, noOrc]
  · refine ⟨by simp [Try.ntmps52], wpA_sound noOrc_ok fxMix _ _ _ _ (by kernel_rfl) ?_⟩
    have hob' := obj_get hob
    have e1 : min k (rows.length - st) = k := by omega
    have e2 : st + k ≤ rows.length := hle
    have e3 : st ≤ rows.length := by omega
    rcases hc with ⟨rfl, rfl, rfl⟩ | ⟨h0, rfl, rfl⟩
    · simp [Try.ntmps52, Try.results52, noOrc, hob', e2, e3]
    · simp [Try.ntmps52, Try.results52, hl, noOrc, hob', e1, e2, h0]
  · refine ⟨by simp [Try.ntmps52], wpA_sound noOrc_ok fxMix _ _ _ _ (by kernel_rfl) ?_⟩
    simp [Try.ntmps52, Try.results52, noOrc]
def cpR (md : Mode) (l : List Cpu) (k : Nat) : List Row := shR md 0 1 (l.take k) ++ (l.drop k).map Cpu.row
theorem cpR_len (md : Mode) (l : List Cpu) (k : Nat) : (cpR md l k).length = l.length := by simp [cpR, shR_len]; omega
theorem cpR_get {md : Mode} {l : List Cpu} {k : Nat} (hk : k < l.length) : (cpR md l k)[k]? = some l[k].row := by
  unfold cpR
  rw [List.getElem?_append_right (by rw [shR_len]; simp; omega), shR_len, List.length_take, Nat.min_eq_left (by omega), Nat.sub_self, List.getElem?_map, List.getElem?_drop]
  simp [hk]
theorem cpR_set {md : Mode} {l : List Cpu} {k : Nat} (hk : k < l.length) : (cpR md l k).set k (segR (md k) (1 + (shT md 0 (l.take k)).length) l[k]) = cpR md l (k + 1) := by
  have hl : (shR md 0 1 (l.take k)).length = k := by rw [shR_len]; simp; omega
  have ht : (l.take k).length = k := by simp; omega
  unfold cpR
  rw [List.set_append_right _ _ (by omega), hl, Nat.sub_self, List.drop_eq_getElem_cons hk, List.map_cons, List.set_cons_zero, List.take_succ_eq_append_getElem hk, shR_snoc, ht, Nat.zero_add]
  simp
theorem cpT_next {md : Mode} {l : List Cpu} {k : Nat} (hk : k < l.length) : shT md 0 (l.take (k + 1)) = shT md 0 (l.take k) ++ segT (md k) l[k] := by
  have ht : (l.take k).length = k := by simp; omega
  rw [List.take_succ_eq_append_getElem hk, shT_snoc, ht, Nat.zero_add]
theorem cpR_low {md : Mode} {l : List Cpu} {k n : Nat} (h : 1 + (shT md 0 (l.take k)).length ≤ n) : ∀ r ∈ cpR md l k, r.all (lowA n) = true := by
  intro r hr
  unfold cpR at hr
  rcases List.mem_append.1 hr with hr | hr
  · exact shR_low h r hr
  · obtain ⟨x, _, rfl⟩ := List.mem_map.1 hr
    simp [Cpu.row, lowA]
theorem shT_self {md : Mode} {i n : Nat} {l : List Cpu} : heapW n (shT md i l) (shT md i l) := by
  have := heapW_app (n := n) (X := shT md i l) (Y := []) (Z := []) (fun o ho => shT_low o ho) trivial
  simpa using this
theorem cpNext {md : Mode} {l : List Cpu} {k : Nat} (hk : k < l.length) {st : Nat → Unit → Env × Heap} {ρ : Env} {H : Heap}
    (hH : H = some (2, (cpR md l k).set k (segR (true, true) (1 + (shT md 0 (l.take k)).length) l[k])) :: (shT md 0 (l.take k) ++ segT (true, true) l[k]))
    (hw : Weaker 0 (st (k + 1) ()) (ρ, some (2, cpR md l (k + 1)) :: shT md 0 (l.take (k + 1)))) : NextE 0 st (fun _ _ => True) (k + 1) ρ H := by
  have hkk : k < (cpR md l k).length := by rw [cpR_len]; exact hk
  have h := segEnt (n0 := 0) (ρ := ρ) (m := md k) hH (List.getElem?_set_self hkk)
  rw [List.set_set, cpR_set hk, ← cpT_next hk] at h
  exact ⟨(), trivial, .trans (.weak hw) h⟩
theorem cpy_own (md : Mode) : InlOk Try.prog 40 (own0 (argG (cSl rCpu) fun l => finG (if (1 ≤ l.length ∧ l.length ≤ 4) ∧ ∀ c ∈ l, c.lines.length ≤ 8 ∧ c.orders.length ≤ 4 then some ((.osl 0 2 0 l.length l.length, some (2, shR md 0 1 l) :: shT md 0 l)) else none))) := by
  refine ownE_1 Try.func40 rfl ?_
  rintro l r H' hr
  by_cases hc : (1 ≤ l.length ∧ l.length ≤ 4) ∧ ∀ c ∈ l, c.lines.length ≤ 8 ∧ c.orders.length ≤ 4
  case neg => rw [if_neg hc] at hr; cases hr
  rw [if_pos hc] at hr
  simp only [Option.some.injEq, Prod.mk.injEq] at hr
  obtain ⟨rfl, rfl⟩ := hr
  refine bodyE_of ((((noOrc_ok.withIF clLn clone_loc).withIF clOd clone_loc).withIF clCpu clone_loc).withD (fun i => if i = 5 then [(9,14)] else [])) fxMix (by kernel_rfl) (by simp [Try.ntmps40]) ?_
  intro C cP cI cN cD cF cA
  have cn0 := orcI clLn (C := C) (by rw [cN]; rfl)
  have cn1 := orcI clOd (C := C) (by rw [cN]; rfl)
  have cn2 := orcI clCpu (C := C) (by rw [cN]; rfl)
  replace cI := fun g => congrFun cI g
  simp only [Orc.withP, Orc.withI, Orc.withF, Orc.withD, Orc.withA, noOrc] at cI
  replace cD : C.dyn = fun i => if i = 5 then [(9,14)] else [] := cD
  replace cF := fun g => congrFun cF g
  simp only [Orc.withP, Orc.withI, Orc.withF, Orc.withD, Orc.withA, noOrc] at cF
  replace cA : C.alt = fun _ => [] := cA
  clear cP cN
  obtain ⟨⟨hc1, hc2⟩, hcc⟩ := hc
  have hne : ¬ l = [] := by intro h; subst h; simp at hc1
  have hl2 : l.length ≤ 4294967296 := by omega
  simp [Try.ntmps40, Try.results40, cSl, cn0, cn1, cn2, cI, cD, cF, cA, rCpu, cloneI, hne, hl2]
  refine loop_forE l.length (fun k (_ : Unit) => ([(3, .osl 0 2 0 l.length l.length), (8, .v (.int .i64 l.length)), (9, .v (.int .i64 k))], some (2, cpR md l k) :: shT md 0 (l.take k))) (fun k _ => True) () (by rintro k _ h _; omega) trivial ?_ ?_ ?_
  · refine .weak ?_
    simp [cpR, shR, shT]
  · rintro k _ hk _ hw
    obtain ⟨hL, hO⟩ := hcc l[k] (List.getElem_mem hk)
    have hL2 : l[k].lines.length ≤ 4294967296 := by omega
    have hO2 : l[k].orders.length ≤ 4294967296 := by omega
    have hg := cpR_get (md := md) hk
    have hgl := cpR_len md l k
    have hg2 : (cpR md l k)[k]'(by rw [hgl]; exact hk) = l[k].row := by
      rw [List.getElem?_eq_getElem (by rw [hgl]; exact hk)] at hg
      exact Option.some.inj hg
    have hlow := cpR_low (md := md) (l := l) (k := k + 1) (Nat.le_refl _)
    have hself := shT_self (md := md) (i := 0) (n := (shT md 0 (l.take (k + 1))).length + 1) (l := l.take (k + 1))
    by_cases e1 : l[k].lines = [] <;> by_cases e2 : l[k].orders = []
    · simp [Try.ntmps40, Try.results40, cSl, cn0, cn1, cn2, cI, cD, cF, cA, hk, hw, hg2, hgl, rCpu, Cpu.row, cloneI, e1, e2]
      refine cpNext (md := md) hk (by simp [segR, segT, lnA, odA, lnT, odT, e1, e2, Nat.add_comm]) ?_
      simp [hself]
      intro x hx a ha
      exact List.all_eq_true.1 (cpR_low (Nat.le_of_eq (Nat.add_comm _ _)) x hx) a ha
    · simp [Try.ntmps40, Try.results40, cSl, cn0, cn1, cn2, cI, cD, cF, cA, hk, hw, hg2, hgl, rCpu, Cpu.row, cloneI, e1, e2, hO2]
      refine cpNext (md := md) hk (by simp [segR, segT, lnA, odA, lnT, odT, e1, e2, Nat.add_comm]) ?_
      simp [hself]
      intro x hx a ha
      exact List.all_eq_true.1 (cpR_low (Nat.le_of_eq (Nat.add_comm _ _)) x hx) a ha
    · simp [Try.ntmps40, Try.results40, cSl, cn0, cn1, cn2, cI, cD, cF, cA, hk, hw, hg2, hgl, rCpu, Cpu.row, cloneI, e1, e2, hL2]
      refine cpNext (md := md) hk (by simp [segR, segT, lnA, odA, lnT, odT, e1, e2, Nat.add_comm]) ?_
      simp [hself]
      intro x hx a ha
      exact List.all_eq_true.1 (cpR_low (Nat.le_of_eq (Nat.add_comm _ _)) x hx) a ha
    · simp [Try.ntmps40, Try.results40, cSl, cn0, cn1, cn2, cI, cD, cF, cA, hk, hw, hg2, hgl, rCpu, Cpu.row, cloneI, e1, e2, hL2, hO2]
      refine cpNext (md := md) hk (by simp [segR, segT, lnA, odA, lnT, odT, e1, e2, Nat.add_comm]) ?_
      simp [hself]
      intro x hx a ha
      exact List.all_eq_true.1 (cpR_low (Nat.le_of_eq (Nat.add_comm _ _)) x hx) a ha
  · rintro _ _
    simp [Try.ntmps40, Try.results40, cSl, cn0, cn1, cn2, cI, cD, cF, cA, cpR]
    refine .weak ?_
    simp [shT_self]
    intro x hx a ha
    exact List.all_eq_true.1 (shR_low (Nat.le_of_eq (Nat.add_comm _ _)) x hx) a ha
theorem cpy_inl (md : Mode) : InlOk Try.prog 40 (frameN (own0 (argG (cSl rCpu) fun l => finG (if (1 ≤ l.length ∧ l.length ≤ 4) ∧ ∀ c ∈ l, c.lines.length ≤ 8 ∧ c.orders.length ≤ 4 then some ((.osl 0 2 0 l.length l.length, some (2, shR md 0 1 l) :: shT md 0 l)) else none)))) := frameN_ok (cpy_own md)
end Go.Proofs.Ytdhpgdfjogklaaa
namespace Go.Proofs.Ytdhpgdfjogklaaa
open Go.AI
set_option maxHeartbeats 2000000
set_option maxRecDepth 100000
set_option linter.unusedSimpArgs false
set_option linter.unusedVariables false
attribute [local simp] wpA wpX RunA RunD runF foot footP footB idsA bare apart runL step1 gsel_f gsel_t gsel_s res_same res_and1 res_and2 res_and3 res_and4 res_and5 res_and6 res_false res_true res_v res_ptr res_fptr res_osl res_xsl soft aAppendZ aCap ovlI ovlJ res_fsl res_esl res_agg res_tup res_fn res_junk res_anyb aPick hk imp_left iteV dstOk guardOk astep astepE AI.ev AI.look AI.put envOf aBox cellsOf allOne allOneA oneA Value.oneCell' Value.cells newObj' aFieldAddr aLoad obj readAt thenA blockA condA retA resA tupA view hot hotC hotR depthV cAgg cInt cBool mkAgg allV aAlloc aBuild fillA writeAt aStore isAggA aField idx aIndexAddr aIndex bnd aSlice aExtract aLen aBuiltin aCall isStatic eqAgg eqTy eqC ev_add ev_sub ev_mul ev_quo ev_rem ev_and ev_or ev_xor ev_andNot ev_shl ev_shr ev_eql ev_neq ev_lss ev_leq ev_gtr ev_geq ev_agg w64 wu32 wu8 ev_not ev_neg Cod.plain RCod.plain argM finM cold coldC coldR goInt intDec boolDec aggDec Weaker heapW lowA lowC Again slDec undef aBuildSlice setRows aAppend rowsOf aMakeSlice aClear aCopy softer_self softer_nil valsOf ev_min2 ev_max2 hotR_set hotR_append take_map_set irow_cold irow_mapM irow_mapMc irow_view irow_viewc irow_hotR irow_ren irow_renc irow_low WeakT heapT thOf ren renC AgainT NextF NextT fnDec cFn rNil selfLt natLt0 natLt1 getLastMap frame0 frame1 own0 own1 argG finG tau tauI tauO tauC bareA bareC bareH irow_tau irow_tauc irow_bare irow_flat irow_bareR ownA_nil ownT_nil ownA_c ownT_c ownA_s ownT_s takeMapLen footC plainA noId noIdC cloneF frame0F frame1F insertF replaceI replaceF cellDec rCell fpDec cFp rTwo deleteF allV_oA oneA_oA res_oA RunR RunE runFT footAt hotR_cat tmodN frameN newA newC newH fxSz2 fxBy2 fxAg2 fxZe2 fxSl2 fxAr2 fxPl2 fxSz3 fxBy3 fxAg3 fxZe3 fxSl3 fxAr3 fxPl3 fxSz4 fxBy4 fxAg4 fxZe4 fxSl4 fxAr4 fxPl4 fxSz5 fxBy5 fxAg5 fxZe5 fxSl5 fxAr5 fxPl5 fxSz9 fxBy9 fxAg9 fxZe9 fxSl9 fxAr9 fxPl9 fxSz12 fxBy12 fxAg12 fxZe12 fxSl12 fxAr12 fxPl12 fxSz13 fxBy13 fxAg13 fxZe13 fxSl13 fxAr13 fxFi13x0 fxFi13x1 fxPl13 fxSz21 fxBy21 fxAg21 fxZe21 fxSl21 fxAr21 fxPl21 fxSz22 fxBy22 fxAg22 fxZe22 fxSl22 fxAr22 fxPl22 fxSz23 fxBy23 fxAg23 fxZe23 fxSl23 fxAr23 fxFi23x0 fxFi23x1 fxPl23 fxSz24 fxBy24 fxAg24 fxZe24 fxSl24 fxAr24 fxFi24x0 fxFi24x1 fxPl24 fxSz25 fxBy25 fxAg25 fxZe25 fxSl25 fxAr25 fxPl25 fxSz26 fxBy26 fxAg26 fxZe26 fxSl26 fxAr26 fxPl26 fxSz27 fxBy27 fxAg27 fxZe27 fxSl27 fxAr27 fxFi27x0 fxFi27x1 fxFi27x2 fxFi27x3 fxFi27x4 fxFi27x5 fxFi27x6 fxPl27 fxSz28 fxBy28 fxAg28 fxZe28 fxSl28 fxAr28 fxFi28x0 fxFi28x1 fxFi28x2 fxFi28x3 fxFi28x4 fxFi28x5 fxFi28x6 fxPl28 fxSz29 fxBy29 fxAg29 fxZe29 fxSl29 fxAr29 fxPl29 fxSz44 fxBy44 fxAg44 fxZe44 fxSl44 fxAr44 fxPl44 fxSz45 fxBy45 fxAg45 fxZe45 fxSl45 fxAr45 fxPl45 fxSz52 fxBy52 fxAg52 fxZe52 fxSl52 fxAr52 fxPl52 fxSz54 fxBy54 fxAg54 fxZe54 fxSl54 fxAr54 fxFi54x0 fxFi54x1 fxPl54 fxSz55 fxBy55 fxAg55 fxZe55 fxSl55 fxAr55 fxFi55x0 fxFi55x1 fxPl55 fxSz56 fxBy56 fxAg56 fxZe56 fxSl56 fxAr56 fxPl56 fxSz60 fxBy60 fxAg60 fxZe60 fxSl60 fxAr60 fxPl60 fxSz61 fxBy61 fxAg61 fxZe61 fxSl61 fxAr61 fxPl61 fxSz62 fxBy62 fxAg62 fxZe62 fxSl62 fxAr62 fxFi62x0 fxFi62x1 fxPl62 fxSz63 fxBy63 fxAg63 fxZe63 fxSl63 fxAr63 fxFi63x0 fxFi63x1 fxPl63 fxSz76 fxBy76 fxAg76 fxZe76 fxSl76 fxAr76 fxPl76 fxSz83 fxBy83 fxAg83 fxZe83 fxSl83 fxAr83 fxFi83x0 fxFi83x1 fxFi83x2 fxPl83 fxSz84 fxBy84 fxAg84 fxZe84 fxSl84 fxAr84 fxFi84x0 fxFi84x1 fxFi84x2 fxPl84 fxSz99 fxBy99 fxAg99 fxZe99 fxSl99 fxAr99 fxPl99 fxSz106 fxBy106 fxAg106 fxZe106 fxSl106 fxAr106 fxPl106 fxSz107 fxBy107 fxAg107 fxZe107 fxSl107 fxAr107 fxFi107x0 fxPl107 fxSz113 fxBy113 fxAg113 fxZe113 fxSl113 fxAr113 fxPl113 fxSz118 fxBy118 fxAg118 fxZe118 fxSl118 fxAr118 fxPl118 fxEq28 fxEq55 fxEq56 fxEq84 fxCv2x2 fxCv2x3 fxCv2x5 fxCv2x12 fxCv2x21 fxCv2x29 fxCv2x45 fxCv3x2 fxCv3x3 fxCv3x5 fxCv3x12 fxCv3x21 fxCv3x29 fxCv3x45 fxCv5x2 fxCv5x3 fxCv5x5 fxCv5x12 fxCv5x21 fxCv5x29 fxCv5x45 fxCv12x2 fxCv12x3 fxCv12x5 fxCv12x12 fxCv12x21 fxCv12x29 fxCv12x45 fxCv21x2 fxCv21x3 fxCv21x5 fxCv21x12 fxCv21x21 fxCv21x29 fxCv21x45 fxCv29x2 fxCv29x3 fxCv29x5 fxCv29x12 fxCv29x21 fxCv29x29 fxCv29x45 fxCv45x2 fxCv45x3 fxCv45x5 fxCv45x12 fxCv45x21 fxCv45x29 fxCv45x45 fxEb4 fxNb4 fxLt9 fxLn22 fxNe22 fxNn22 fxOe22 fxOn22 fxXe22 fxXn22 fxLn44 fxNe44 fxNn44 fxOe44 fxOn44 fxXe44 fxXn44 fxLn52 fxNe52 fxNn52 fxOe52 fxOn52 fxXe52 fxXn52 fxLn60 fxNe60 fxNn60 fxOe60 fxOn60 fxXe60 fxXn60 fxLn61 fxNe61 fxNn61 fxOe61 fxOn61 fxXe61 fxXn61 fxLn76 fxNe76 fxNn76 fxOe76 fxOn76 fxXe76 fxXn76 fxFn3 fxFm3 fxFb3 fxFi3 fxFj3 fxFn4 fxFm4 fxFb4 fxFi4 fxFj4 fxFn5 fxFm5 fxFb5 fxFi5 fxFj5 fxFn6 fxFm6 fxFb6 fxFi6 fxFj6 fxFn7 fxFm7 fxFb7 fxFi7 fxFj7 fxFn8 fxFm8 fxFb8 fxFi8 fxFj8 fxFn9 fxFm9 fxFb9 fxFi9 fxFj9 fxFn10 fxFm10 fxFb10 fxFi10 fxFj10 fxFn11 fxFm11 fxFb11 fxFi11 fxFj11 fxFn12 fxFm12 fxFb12 fxFi12 fxFj12 fxFn13 fxFm13 fxFb13 fxFi13 fxFj13 fxFn14 fxFm14 fxFb14 fxFi14 fxFj14 fxFn15 fxFm15 fxFb15 fxFi15 fxFj15 fxFn16 fxFm16 fxFb16 fxFi16 fxFj16 fxFn17 fxFm17 fxFb17 fxFi17 fxFj17 fxFn18 fxFm18 fxFb18 fxFi18 fxFj18 fxFn19 fxFm19 fxFb19 fxFi19 fxFj19 fxFn20 fxFm20 fxFb20 fxFi20 fxFj20 fxFn21 fxFm21 fxFb21 fxFi21 fxFj21 fxFn22 fxFm22 fxFb22 fxFi22 fxFj22 fxFn23 fxFm23 fxFb23 fxFi23 fxFj23 fxFn24 fxFm24 fxFb24 fxFi24 fxFj24 fxFn25 fxFm25 fxFb25 fxFi25 fxFj25 fxFn26 fxFm26 fxFb26 fxFi26 fxFj26 fxFn27 fxFm27 fxFb27 fxFi27 fxFj27 fxFn28 fxFm28 fxFb28 fxFi28 fxFj28 fxFn29 fxFm29 fxFb29 fxFi29 fxFj29 fxFn30 fxFm30 fxFb30 fxFi30 fxFj30 fxFn31 fxFm31 fxFb31 fxFi31 fxFj31 fxFn32 fxFm32 fxFb32 fxFi32 fxFj32 fxFn33 fxFm33 fxFb33 fxFi33 fxFj33 fxFn34 fxFm34 fxFb34 fxFi34 fxFj34 fxFn35 fxFm35 fxFb35 fxFi35 fxFj35 fxFn36 fxFm36 fxFb36 fxFi36 fxFj36 fxFn37 fxFm37 fxFb37 fxFi37 fxFj37 fxFn38 fxFm38 fxFb38 fxFi38 fxFj38 fxFn39 fxFm39 fxFb39 fxFi39 fxFj39 fxFn40 fxFm40 fxFb40 fxFi40 fxFj40 fxFn41 fxFm41 fxFb41 fxFi41 fxFj41 fxFn42 fxFm42 fxFb42 fxFi42 fxFj42 fxFn43 fxFm43 fxFb43 fxFi43 fxFj43 fxFn44 fxFm44 fxFb44 fxFi44 fxFj44 fxFn45 fxFm45 fxFb45 fxFi45 fxFj45 fxFn46 fxFm46 fxFb46 fxFi46 fxFj46 fxFn47 fxFm47 fxFb47 fxFi47 fxFj47 fxFn48 fxFm48 fxFb48 fxFi48 fxFj48 fxFn49 fxFm49 fxFb49 fxFi49 fxFj49 fxFn50 fxFm50 fxFb50 fxFi50 fxFj50 fxFn51 fxFm51 fxFb51 fxFi51 fxFj51 fxFn52 fxFm52 fxFb52 fxFi52 fxFj52 fxFn53 fxFm53 fxFb53 fxFi53 fxFj53 fxFn54 fxFm54 fxFb54 fxFi54 fxFj54 fxFn55 fxFm55 fxFb55 fxFi55 fxFj55 fxFn56 fxFm56 fxFb56 fxFi56 fxFj56 fxFn57 fxFm57 fxFb57 fxFi57 fxFj57 fxFn58 fxFm58 fxFb58 fxFi58 fxFj58 fxFn59 fxFm59 fxFb59 fxFi59 fxFj59 fxFn60 fxFm60 fxFb60 fxFi60 fxFj60
attribute [local simp] Ln.eta Ln.cold Ln.mapM Ln.mapMc Ln.view Ln.viewc Ln.hotR Ln.ren Ln.renc Ln.low Ln.tau Ln.tauc Ln.bare Ln.flat Ln.flat1 Ln.mapMt Ln.mapMd Ln.coldt Ln.coldd Ln.hotRt Ln.hotRd
attribute [local simp] Od.eta Od.cold Od.mapM Od.mapMc Od.view Od.viewc Od.hotR Od.ren Od.renc Od.low Od.tau Od.tauc Od.bare Od.flat Od.flat1 Od.mapMt Od.mapMd Od.coldt Od.coldd Od.hotRt Od.hotRd
attribute [local simp] Cpu.eta Cpu.dec_row Cpu.dec_hrow Cpu.cold Cpu.hcold Cpu.mapM Cpu.mapMc Cpu.hmapM Cpu.hmapMc Cpu.view Cpu.viewc Cpu.hview Cpu.hviewc Cpu.hotR Cpu.ren Cpu.renc Cpu.low Cpu.hlow
theorem lnA_tau (n : Nat) (b : Bool) (c : Nat) (L : List Ln) : tau [] n (lnA b c L) = lnA b (c + n) L := by
  unfold lnA; cases b <;> by_cases e : L = [] <;> simp [e, tau, tauI, Nat.add_comm]
theorem odA_tau (n : Nat) (b : Bool) (c : Nat) (O : List Od) : tau [] n (odA b c O) = odA b (c + n) O := by
  unfold odA; cases b <;> by_cases e : O = [] <;> simp [e, tau, tauI, Nat.add_comm]
theorem segR_tau (n : Nat) (m : Bool × Bool) (c : Nat) (x : Cpu) : (segR m c x).map (tau [] n) = segR m (c + n) x := by
  simp [segR, lnA_tau, odA_tau]; rw [Nat.add_right_comm]
theorem shR_tau (md : Mode) (n i c : Nat) (l : List Cpu) : (shR md i c l).map (fun r => r.map (tau [] n)) = shR md i (c + n) l := by
  induction l generalizing i c with
  | nil => rfl
  | cons x l ih => simp only [shR, List.map_cons, segR_tau, ih]; rw [Nat.add_right_comm]
theorem shT_tau (md : Mode) (n i : Nat) (l : List Cpu) : (shT md i l).map (tauO [] n) = shT md i l := by
  induction l generalizing i with
  | nil => rfl
  | cons x l ih =>
    simp only [shT, segT, List.map_append, ih]
    congr 1
    congr 1
    · generalize (md i).1 = b
      unfold lnT; cases b <;> by_cases e : x.lines = [] <;> simp [e, tauO]
    · generalize (md i).2 = b
      unfold odT; cases b <;> by_cases e : x.orders = [] <;> simp [e, tauO]
theorem lnA_new (b : Bool) (c : Nat) (L : List Ln) : newA (lnA b c L) = true := by
  unfold lnA; cases b <;> by_cases e : L = [] <;> simp [e, Ln.hotR]
theorem odA_new (b : Bool) (c : Nat) (O : List Od) : newA (odA b c O) = true := by
  unfold odA; cases b <;> by_cases e : O = [] <;> simp [e, Od.hotR]
theorem shR_new (md : Mode) (i c : Nat) (l : List Cpu) : ((shR md i c l).all fun row => row.all newA) = true := by
  induction l generalizing i c with
  | nil => rfl
  | cons x l ih => simp only [shR, List.all_cons, ih, segR, lnA_new, odA_new, List.all_nil, Bool.and_self]
theorem newH_app {A B : Heap} : newH (A ++ B) = (newH A && newH B) := by
  induction A with
  | nil => simp [newH]
  | cons a A ih => cases a <;> simp [newH, ih, Bool.and_assoc]
theorem shT_new (md : Mode) (i : Nat) (l : List Cpu) : newH (shT md i l) = true := by
  induction l generalizing i with
  | nil => rfl
  | cons x l ih =>
    simp only [shT, segT, newH_app, ih, Bool.and_true]
    have h1 : newH (lnT (md i).1 x.lines) = true := by
      generalize (md i).1 = b
      unfold lnT; cases b <;> by_cases e : x.lines = [] <;> simp [e, newH, Ln.row]
    have h2 : newH (odT (md i).2 x.orders) = true := by
      generalize (md i).2 = b
      unfold odT; cases b <;> by_cases e : x.orders = [] <;> simp [e, newH, Od.row]
    rw [h1, h2]; rfl
end Go.Proofs.Ytdhpgdfjogklaaa
namespace Go.Proofs.Ytdhpgdfjogklaaa
open Go.AI
theorem at_iff (x : Ln) (s p : Int) : x.at s p = true ↔ x.space = s ∧ x.page = p := by simp [Ln.at]
theorem lineGo_iff (seen L : List Ln) : lineGo seen L = true ↔ (∀ x ∈ L, okSP x.space x.page = true) ∧ L.Pairwise (fun a b => a.at b.space b.page = false) ∧ ∀ x ∈ L, ∀ y ∈ seen, y.at x.space x.page = false := by
  induction L generalizing seen with
  | nil => simp [lineGo]
  | cons a L ih =>
    simp only [lineGo, Bool.and_eq_true, ih, List.mem_cons, forall_eq_or_imp, List.pairwise_cons, List.mem_append, List.not_mem_nil, or_false, Bool.not_eq_true', List.any_eq_false]
    constructor
    · rintro ⟨⟨h1, h2⟩, h3, h4, h5⟩
      refine ⟨⟨h1, h3⟩, ⟨fun b hb => h5 b hb a (.inr rfl), h4⟩, fun y hy => by simpa using h2 y hy, fun x hx y hy => h5 x hx y (.inl hy)⟩
    · rintro ⟨⟨h1, h3⟩, ⟨h6, h4⟩, h2, h5⟩
      refine ⟨⟨h1, fun y hy => by simpa using h2 y hy⟩, h3, h4, ?_⟩
      rintro x hx y (hy | rfl)
      · exact h5 x hx y hy
      · exact h6 x hx
/-- lines in order: right ones, no page twice -/
def LnsOk (L : List Ln) : Prop := (∀ x ∈ L, okSP x.space x.page = true) ∧ L.Pairwise (fun a b => a.at b.space b.page = false)
theorem LnsOk.sub {L M : List Ln} (h : LnsOk L) (hs : M.Sublist L) : LnsOk M := ⟨fun x hx => h.1 x (hs.subset hx), h.2.sublist hs⟩
def CpuOk (c : Cpu) : Prop := c.lines.length ≤ 8 ∧ c.orders.length ≤ 4 ∧ LnsOk c.lines ∧ ∀ o ∈ c.orders, okO o = true
theorem cpuE_iff (c : Cpu) : cpuE c = 0 ↔ CpuOk c := by
  unfold cpuE CpuOk LnsOk
  have h := lineGo_iff [] c.lines
  split
  · simp; omega
  · rename_i h0
    have h1 : c.lines.length ≤ 8 ∧ c.orders.length ≤ 4 := by omega
    simp only [h1, true_and]
    split
    · rename_i h2
      simp only [Bool.and_eq_true, List.all_eq_true] at h2
      have h3 := h.1 h2.1
      simp only [true_iff]
      exact ⟨⟨h3.1, h3.2.1⟩, h2.2⟩
    · rename_i h2
      simp only [show (3 : Int) ≠ 0 by omega, false_iff]
      rintro ⟨⟨h3, h4⟩, h5⟩
      apply h2
      simp only [Bool.and_eq_true, List.all_eq_true]
      exact ⟨h.2 ⟨h3, h4, by simp⟩, h5⟩
theorem tlOk_iff {l : List Cpu} : tlCheck l = 0 ↔ 1 ≤ l.length ∧ l.length ≤ 4 ∧ ∀ c ∈ l, CpuOk c := by
  rw [tlCheck_iff]; simp only [cpuE_iff]
theorem lkW_eq (L : List Ln) (s p : Int) : lkW L s p = (lkL L s p).getD 0 := by
  unfold lkW lkL tlFind idxP
  cases h : L.findIdx? (fun x => x.at s p) with
  | none =>
    rw [List.findIdx?_eq_none_iff] at h
    have : L.find? (fun x => x.at s p) = none := by rw [List.find?_eq_none]; intro x hx; simp [h x hx]
    simp [this]
  | some i =>
    have h2 := h
    rw [List.findIdx?_eq_some_iff_getElem] at h2
    obtain ⟨h1, h3, h4⟩ := h2
    have : L.find? (fun x => x.at s p) = some L[i] := by
      rw [List.find?_eq_some_iff_getElem]
      exact ⟨h3, i, h1, rfl, fun j hj => by simpa using h4 j hj⟩
    simp [this, h1]
    intro h; omega
theorem lkB_eq (L : List Ln) (s p : Int) : decide (0 ≤ tlFind L s p) = (lkL L s p).isSome := by
  rw [Bool.eq_iff_iff]
  simp [tlFind_iff, lkL]
theorem lk_none {L : List Ln} {s p : Int} : lkL L s p = none ↔ ∀ x ∈ L, x.at s p = false := by
  simp [lkL]
/-- what a deletion leaves is found as before -/
theorem lk_filter {L : List Ln} {q : Ln → Bool} {s p : Int} (h : ∀ x, x.at s p = true → q x = true) : lkL (L.filter q) s p = lkL L s p := by
  unfold lkL
  rw [List.find?_filter]
  congr 2
  funext x
  cases hx : x.at s p with
  | false => simp
  | true => simp [h x hx]
theorem lk_sub {L M : List Ln} {s p : Int} (hs : M.Sublist L) (h : lkL L s p = none) : lkL M s p = none := by
  rw [lk_none] at h ⊢
  exact fun x hx => h x (hs.subset hx)
theorem hit_iff (x : Ln) (o : Od) : x.hit o = true ↔ x.space = o.space ∧ (o.page < 0 ∨ x.page = o.page) := by simp [Ln.hit]
theorem forg_sub (o : Od) (L : List Ln) : (forg o L).Sublist L := List.filter_sublist
theorem forg_keep {o : Od} {L : List Ln} {s p : Int} (h : ¬ (s = o.space ∧ (o.page < 0 ∨ o.page = p))) : lkL (forg o L) s p = lkL L s p := by
  apply lk_filter
  intro x hx
  rw [at_iff] at hx
  cases hh : x.hit o with
  | false => rfl
  | true => rw [hit_iff] at hh; exfalso; apply h; rw [← hx.1, ← hx.2]; exact ⟨hh.1, hh.2.imp id Eq.symm⟩
theorem forg_gone {o : Od} {L : List Ln} {s p : Int} (h : s = o.space ∧ (o.page < 0 ∨ o.page = p)) : lkL (forg o L) s p = none := by
  rw [lk_none]
  intro x hx
  unfold forg at hx
  rw [List.mem_filter] at hx
  cases ha : x.at s p with
  | false => rfl
  | true =>
    rw [at_iff] at ha
    have : x.hit o = true := by rw [hit_iff, ha.1, ha.2]; exact ⟨h.1, h.2.imp id Eq.symm⟩
    simp [this] at hx
/-- all orders are done -/
def forgs : List Od → List Ln → List Ln
  | [], L => L
  | o :: O, L => forgs O (forg o L)
theorem forgs_sub (O : List Od) (L : List Ln) : (forgs O L).Sublist L := by
  induction O generalizing L with
  | nil => exact List.Sublist.refl _
  | cons o O ih => exact (ih _).trans (forg_sub o L)
theorem forgs_gone {O : List Od} {L : List Ln} {s p : Int} {o : Od} (ho : o ∈ O) (h : s = o.space ∧ (o.page < 0 ∨ o.page = p)) : lkL (forgs O L) s p = none := by
  induction O generalizing L with
  | nil => simp at ho
  | cons a O ih =>
    rcases List.mem_cons.1 ho with rfl | ho
    · exact lk_sub (forgs_sub O _) (forg_gone h)
    · exact ih ho
theorem forgs_keep {O : List Od} {L : List Ln} {s p : Int} (h : ∀ o ∈ O, ¬ (s = o.space ∧ (o.page < 0 ∨ o.page = p))) : lkL (forgs O L) s p = lkL L s p := by
  induction O generalizing L with
  | nil => rfl
  | cons a O ih =>
    rw [forgs, ih fun o ho => h o (List.mem_cons_of_mem _ ho)]
    exact forg_keep (h a List.mem_cons_self)
def srvd (c : Cpu) : Cpu := ⟨forgs c.orders c.lines, []⟩
theorem CpuOk.srvd {c : Cpu} (h : CpuOk c) : CpuOk (srvd c) :=
  ⟨Nat.le_trans (forgs_sub _ _).length_le h.1, by simp [Go.Proofs.Ytdhpgdfjogklaaa.srvd], h.2.2.1.sub (forgs_sub _ _), by simp [Go.Proofs.Ytdhpgdfjogklaaa.srvd]⟩
/-- a processor does its eldest order -/
def srv1 (c : Cpu) : Cpu := match c.orders with
  | [] => c
  | o :: O => ⟨forg o c.lines, O⟩
theorem CpuOk.srv1 {c : Cpu} (h : CpuOk c) : CpuOk (srv1 c) := by
  obtain ⟨L, O⟩ := c
  cases O with
  | nil => exact h
  | cons o O =>
    obtain ⟨h1, h2, h3, h4⟩ := h
    exact ⟨Nat.le_trans (forg_sub _ _).length_le h1, by simp only [Go.Proofs.Ytdhpgdfjogklaaa.srv1, List.length_cons] at h2 ⊢; omega, h3.sub (forg_sub _ _), fun x hx => h4 x (List.mem_cons_of_mem _ hx)⟩
theorem srvd_srv1 (c : Cpu) : srvd (srv1 c) = srvd c := by
  obtain ⟨L, O⟩ := c
  cases O <;> rfl
theorem okO_of {s p : Int} (h : okSP s p = true) : okO ⟨s, p⟩ = true := by
  unfold okSP at h
  simp only [decide_eq_true_eq] at h
  unfold okO okSP
  simp; omega
end Go.Proofs.Ytdhpgdfjogklaaa
