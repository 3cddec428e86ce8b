/- Package tlb: processors, Check. Package tlb: Check. Package tlb: check, Look, Done. Package tlb: Done, what is forgotten. Package tlb: lines are forgotten. Package tlb: copied; some of the inner lists stay own. Package tlb: copied. Package tlb: copied. Package tlb: Fill. Package tlb: Fill. Package tlb: plain laws of lines and orders. Package tlb: Serve. Package tlb: Shoot. Processors whose lines are one's own: one of several states. Processors of one's own, as they lie in memory. Package tlb: Fill; its lines are one's own. Package tlb: Serve; its lines are one's own. Package tlb: Shoot; its lines are one's own. Fill, Shoot, Serve among other objects. -/
import Derived.Test.YtebpjfdbjhodiaaFaT
import Derived.Test.YtebpjfdbjhodiaaAiZd
import Derived.Test.YtebpjfdbjhodiaaAiZe
import Derived.Test.YtebpjfdbjhodiaaAiZf
import Derived.Test.YtebpjfdbjhodiaaAiZh
import Derived.Test.YtebpjfdbjhodiaaToA
import Derived.Test.YtebpjfdbjhodiaaAiZi
import Derived.Test.YtebpjfdbjhodiaaAiZp
namespace Go.Proofs.Ytebpjfdbjhodiaa
open Go.AI
set_option linter.unusedSimpArgs false
set_option linter.unusedVariables false
section
set_option maxHeartbeats 2000000
set_option maxRecDepth 100000
set_option linter.unusedSimpArgs false
set_option linter.unusedVariables false
attribute [local simp] wpA wpX RunA RunD runF foot footP footB idsA bare apart runL step1 gsel_f gsel_t gsel_s res_same res_and1 res_and2 res_and3 res_and4 res_and5 res_and6 res_false res_true res_v res_ptr res_fptr res_osl res_xsl soft aAppendZ aCap ovlI ovlJ res_fsl res_esl res_agg res_tup res_fn res_junk res_anyb aPick hk imp_left iteV dstOk guardOk astep astepE AI.ev AI.look AI.put envOf aBox cellsOf allOne allOneA oneA Value.oneCell' Value.cells newObj' aFieldAddr aLoad obj readAt thenA blockA condA retA resA tupA view hot hotC hotR depthV cAgg cInt cBool mkAgg allV aAlloc aBuild fillA writeAt aStore isAggA aField idx aIndexAddr aIndex bnd aSlice aExtract aLen aBuiltin aCall isStatic eqAgg eqTy eqC ev_add ev_sub ev_mul ev_quo ev_rem ev_and ev_or ev_xor ev_andNot ev_shl ev_shr ev_eql ev_neq ev_lss ev_leq ev_gtr ev_geq ev_agg w64 wu32 wu8 ev_not ev_neg Cod.plain RCod.plain argM finM cold coldC coldR goInt intDec boolDec aggDec Weaker heapW lowA lowC Again slDec undef aBuildSlice setRows aAppend rowsOf aMakeSlice aClear aCopy softer_self softer_nil valsOf ev_min2 ev_max2 hotR_set hotR_append take_map_set irow_cold irow_mapM irow_mapMc irow_view irow_viewc irow_hotR irow_ren irow_renc irow_low WeakT heapT thOf ren renC AgainT NextF NextT fnDec cFn rNil selfLt natLt0 natLt1 getLastMap frame0 frame1 own0 own1 argG finG tau tauI tauO tauC bareA bareC bareH irow_tau irow_tauc irow_bare irow_flat irow_bareR ownA_nil ownT_nil ownA_c ownT_c ownA_s ownT_s takeMapLen footC plainA noId noIdC cloneF frame0F frame1F insertF replaceI replaceF cellDec rCell fpDec cFp rTwo deleteF allV_oA oneA_oA res_oA RunR RunE runFT footAt hotR_cat tmodN aEqH aSliceA frameN newA newC newH fxSz3 fxAg3 fxSl3 fxAg4 fxSz53 fxBy53 fxAg53 fxZe53 fxSl53 fxAr53 fxSz55 fxAg55 fxZe55 fxFi55x0 fxFi55x1 fxPl55 fxSz57 fxAg57 fxZe57 fxAr57 fxPl57 fxSz59 fxBy59 fxAg59 fxZe59 fxFi59x0 fxFi59x1 fxFi59x2 fxFi59x3 fxFi59x4 fxFi59x5 fxPl59 fxSz60 fxAg60 fxSl60 fxAr60 fxSz62 fxBy62 fxAg62 fxZe62 fxFi62x0 fxFi62x1 fxSz63 fxAg63 fxZe63 fxSl63 fxAr63 fxSz65 fxBy65 fxAg65 fxZe65 fxFi65x0 fxFi65x1 fxFi65x2 fxPl65 fxSz66 fxAg66 fxZe66 fxSl66 fxAr66 fxSz68 fxAg68 fxZe68 fxSl68 fxAr68 fxSz69 fxBy69 fxAg69 fxZe69 fxSl69 fxAr69 fxSz70 fxAg70 fxSl70 fxAr70 fxSz72 fxBy72 fxAg72 fxZe72 fxFi72x0 fxFi72x1 fxSz74 fxAg74 fxSz76 fxBy76 fxAg76 fxZe76 fxFi76x0 fxFi76x1 fxFi76x2 fxPl76 fxZe92 fxAr92 fxPl92 fxZe93 fxAr93 fxPl93 fxZe94 fxAr94 fxPl94 fxEq59 fxEq65 fxEq76 fxNe53 fxOe53 fxXe53 fxNe60 fxOe60 fxXe60 fxLn63 fxNe63 fxOe63 fxXe63 fxNe69 fxOe69 fxXe69 fxNe70 fxOe70 fxXe70 fxFm22 fxFi22 fxFm23 fxFi23 fxFm24 fxFi24 fxFm25 fxFi25 fxFm26 fxFi26 fxFm27 fxFm28 fxFi28 fxFj28 fxFm29 fxFi29 fxFm30 fxFi30 fxFm31 fxFi31 fxFm32 fxFm33 fxFm34 fxFm36 fxFi36 fxFm38 fxFi38 fxFm39 fxFm40 fxFm93 fxFi93 fxFm94 fxFi94 fxFm95 fxFi95 fxFm96 fxFm97 fxFm98 fxFm99 fxFi99 fxFm100 fxFi100 fxFm101 fxFi101 fxFm102 fxFi102 fxFm103 fxFi103 fxFm104 fxFm105 fxFm106 fxFm107 fxFi107 fxFm108 fxFm109 fxFi109 fxFm110 fxFi110 fxFm111 fxFm112 fxFm163 fxFi163 fxFm164 fxFi164 fxFm165 fxFm166 fxFm167 fxFi167 fxFm168 fxFi168 fxFm169 fxFi169 fxFm170 fxFi170 fxFm171 fxFm199 fxFi199 fxFm200 fxFi200 fxFm201 fxFm221 fxFi221
section
structure Ln where
  space : Int
  page : Int
  word : Int
  deriving DecidableEq
def lnDec : Row → Option Ln
  | [.v (.int .i64 x0), .v (.int .i64 x1), .v (.int .u32 x2)] => some ⟨x0, x1, x2⟩
  | _ => none
def Ln.row (e : Ln) : Row := [.v (.int .i64 e.space), .v (.int .i64 e.page), .v (.int .u32 e.word)]
def rLn : RCod Ln := RCod.plain 3 Ln.row lnDec
  (fun e => rfl) (fun _ => rfl) (fun r e h => by
    unfold lnDec at h
    split at h
    · simp at h; subst h; rfl
    · cases h)
def Ln.val (e : Ln) : Value := .agg #[.int .i64 e.space, .int .i64 e.page, .int .u32 e.word]
theorem Ln.eta (e : Ln) : Ln.mk e.space e.page e.word = e := rfl
attribute [local simp] Ln.eta
theorem Ln.cold (l : List Ln) : coldR (l.map Ln.row) = l.map Ln.row := by
  induction l with
  | nil => simp [coldR]
  | cons e l ih => simp [coldR, coldC, AI.cold, ih, Ln.row]
theorem Ln.mapM (l : List Ln) : (l.map Ln.row).mapM lnDec = some l := mapM_dec rLn l
theorem Ln.mapMc (l : List Ln) : l.mapM (lnDec ∘ Ln.row) = some l := mapM_dec' rLn l
theorem Ln.view (H : Heap) (n : Nat) (e : Ln) : List.map (AI.view H n) e.row = e.row := by cases n <;> simp [Ln.row, AI.view]
theorem Ln.viewc (H : Heap) (n : Nat) : List.map (AI.view H n) ∘ Ln.row = Ln.row := by funext e; exact Ln.view H n e
theorem Ln.hotR (l : List Ln) : AI.hotR (l.map Ln.row) = true := by
  induction l with
  | nil => simp [AI.hotR]
  | cons e l ih => simp [AI.hotR, hotC, hot, ih, Ln.row]
theorem Ln.ren (n : Nat) (th : List Nat) (e : Ln) : List.map (AI.ren n th) e.row = e.row := by simp [Ln.row, AI.ren]
theorem Ln.renc (n : Nat) (th : List Nat) : List.map (AI.ren n th) ∘ Ln.row = Ln.row := by funext e; exact Ln.ren n th e
theorem Ln.low (n : Nat) (e : Ln) : e.row.all (lowA n) = true := by simp [Ln.row, lowA]
theorem Ln.tau (fp : List Nat) (n : Nat) (e : Ln) : List.map (AI.tau fp n) e.row = e.row := by simp [Ln.row, AI.tau]
theorem Ln.tauc (fp : List Nat) (n : Nat) : List.map (AI.tau fp n) ∘ Ln.row = Ln.row := by funext e; exact Ln.tau fp n e
theorem Ln.bare (e : Ln) : e.row.all bareA = true := by simp [Ln.row, bareA]
theorem Ln.flat (l : List Ln) : flat0 (l.map Ln.row) = true := by simp [flat0, Ln.low]
theorem Ln.flat1 (e : Ln) : flat0 [e.row] = true := by simp [flat0, Ln.low]
theorem Ln.exact : Exact rLn := by
  intro r e h
  simp only [rLn, RCod.plain] at h ⊢
  unfold lnDec at h
  split at h
  · simp at h; subst h; rfl
  · cases h
theorem Ln.mapMt (k : Nat) (l : List Ln) : (List.take k (l.map Ln.row)).mapM lnDec = some (l.take k) := by rw [← List.map_take]; exact mapM_dec rLn _
theorem Ln.mapMd (k : Nat) (l : List Ln) : (List.drop k (l.map Ln.row)).mapM lnDec = some (l.drop k) := by rw [← List.map_drop]; exact mapM_dec rLn _
theorem Ln.coldt (k : Nat) (l : List Ln) : coldR (List.take k (l.map Ln.row)) = List.take k (l.map Ln.row) := by rw [← List.map_take]; exact Ln.cold _
theorem Ln.coldd (k : Nat) (l : List Ln) : coldR (List.drop k (l.map Ln.row)) = List.drop k (l.map Ln.row) := by rw [← List.map_drop]; exact Ln.cold _
theorem Ln.hotRt (k : Nat) (l : List Ln) : AI.hotR (List.take k (l.map Ln.row)) = true := by rw [← List.map_take]; exact Ln.hotR _
theorem Ln.hotRd (k : Nat) (l : List Ln) : AI.hotR (List.drop k (l.map Ln.row)) = true := by rw [← List.map_drop]; exact Ln.hotR _
attribute [local simp] Ln.hotRt Ln.hotRd
attribute [local simp] Ln.tau Ln.tauc Ln.bare Ln.flat Ln.flat1 Ln.mapMt Ln.mapMd Ln.coldt Ln.coldd
attribute [local simp] Ln.cold Ln.mapM Ln.mapMc Ln.view Ln.viewc Ln.hotR Ln.ren Ln.renc Ln.low
structure Od where
  space : Int
  page : Int
  deriving DecidableEq
def odDec : Row → Option Od
  | [.v (.int .i64 x0), .v (.int .i64 x1)] => some ⟨x0, x1⟩
  | _ => none
def Od.row (e : Od) : Row := [.v (.int .i64 e.space), .v (.int .i64 e.page)]
def rOd : RCod Od := RCod.plain 2 Od.row odDec
  (fun e => rfl) (fun _ => rfl) (fun r e h => by
    unfold odDec at h
    split at h
    · simp at h; subst h; rfl
    · cases h)
def Od.val (e : Od) : Value := .agg #[.int .i64 e.space, .int .i64 e.page]
theorem Od.eta (e : Od) : Od.mk e.space e.page = e := rfl
attribute [local simp] Od.eta
theorem Od.cold (l : List Od) : coldR (l.map Od.row) = l.map Od.row := by
  induction l with
  | nil => simp [coldR]
  | cons e l ih => simp [coldR, coldC, AI.cold, ih, Od.row]
theorem Od.mapM (l : List Od) : (l.map Od.row).mapM odDec = some l := mapM_dec rOd l
theorem Od.mapMc (l : List Od) : l.mapM (odDec ∘ Od.row) = some l := mapM_dec' rOd l
theorem Od.view (H : Heap) (n : Nat) (e : Od) : List.map (AI.view H n) e.row = e.row := by cases n <;> simp [Od.row, AI.view]
theorem Od.viewc (H : Heap) (n : Nat) : List.map (AI.view H n) ∘ Od.row = Od.row := by funext e; exact Od.view H n e
theorem Od.hotR (l : List Od) : AI.hotR (l.map Od.row) = true := by
  induction l with
  | nil => simp [AI.hotR]
  | cons e l ih => simp [AI.hotR, hotC, hot, ih, Od.row]
theorem Od.ren (n : Nat) (th : List Nat) (e : Od) : List.map (AI.ren n th) e.row = e.row := by simp [Od.row, AI.ren]
theorem Od.renc (n : Nat) (th : List Nat) : List.map (AI.ren n th) ∘ Od.row = Od.row := by funext e; exact Od.ren n th e
theorem Od.low (n : Nat) (e : Od) : e.row.all (lowA n) = true := by simp [Od.row, lowA]
theorem Od.tau (fp : List Nat) (n : Nat) (e : Od) : List.map (AI.tau fp n) e.row = e.row := by simp [Od.row, AI.tau]
theorem Od.tauc (fp : List Nat) (n : Nat) : List.map (AI.tau fp n) ∘ Od.row = Od.row := by funext e; exact Od.tau fp n e
theorem Od.bare (e : Od) : e.row.all bareA = true := by simp [Od.row, bareA]
theorem Od.flat (l : List Od) : flat0 (l.map Od.row) = true := by simp [flat0, Od.low]
theorem Od.flat1 (e : Od) : flat0 [e.row] = true := by simp [flat0, Od.low]
theorem Od.exact : Exact rOd := by
  intro r e h
  simp only [rOd, RCod.plain] at h ⊢
  unfold odDec at h
  split at h
  · simp at h; subst h; rfl
  · cases h
theorem Od.mapMt (k : Nat) (l : List Od) : (List.take k (l.map Od.row)).mapM odDec = some (l.take k) := by rw [← List.map_take]; exact mapM_dec rOd _
theorem Od.mapMd (k : Nat) (l : List Od) : (List.drop k (l.map Od.row)).mapM odDec = some (l.drop k) := by rw [← List.map_drop]; exact mapM_dec rOd _
theorem Od.coldt (k : Nat) (l : List Od) : coldR (List.take k (l.map Od.row)) = List.take k (l.map Od.row) := by rw [← List.map_take]; exact Od.cold _
theorem Od.coldd (k : Nat) (l : List Od) : coldR (List.drop k (l.map Od.row)) = List.drop k (l.map Od.row) := by rw [← List.map_drop]; exact Od.cold _
theorem Od.hotRt (k : Nat) (l : List Od) : AI.hotR (List.take k (l.map Od.row)) = true := by rw [← List.map_take]; exact Od.hotR _
theorem Od.hotRd (k : Nat) (l : List Od) : AI.hotR (List.drop k (l.map Od.row)) = true := by rw [← List.map_drop]; exact Od.hotR _
attribute [local simp] Od.hotRt Od.hotRd
attribute [local simp] Od.tau Od.tauc Od.bare Od.flat Od.flat1 Od.mapMt Od.mapMd Od.coldt Od.coldd
attribute [local simp] Od.cold Od.mapM Od.mapMc Od.view Od.viewc Od.hotR Od.ren Od.renc Od.low
structure Cpu where
  lines : List Ln
  orders : List Od
  deriving DecidableEq
def cpuDec : Row → Option Cpu
  | [a0, a1] => match slDec rLn a0, slDec rOd a1 with | some x0, some x1 => some ⟨x0, x1⟩ | _, _ => none
  | _ => none
def Cpu.row (e : Cpu) : Row := [.fsl false 3 (e.lines.map Ln.row), .fsl false 2 (e.orders.map Od.row)]
def Cpu.hrow (e : Cpu) : Row := [.fsl true 3 (e.lines.map Ln.row), .fsl true 2 (e.orders.map Od.row)]
theorem Cpu.eta (e : Cpu) : Cpu.mk e.lines e.orders = e := rfl
theorem Cpu.dec_row (e : Cpu) : cpuDec e.row = some e := by
  have h0 := (cSl rLn).de e.lines
  have h1 := (cSl rOd).de e.orders
  simp only [cSl] at h0 h1
  simp only [cpuDec, Cpu.row]
  erw [h0]
  erw [h1]
theorem Cpu.dec_hrow (e : Cpu) : cpuDec e.hrow = some e := Cpu.dec_row e
def rCpu : RCod Cpu where
  sz := 2
  enc := Cpu.row
  dec := cpuDec
  de := Cpu.dec_row
  len _ := rfl
  ok := by
    intro r e h β ok w n x hok hr
    unfold cpuDec at h
    split at h
    · split at h
      · rename_i h0 h1
        simp at h
        subst h
        refine ⟨rfl, fun j c hj => ?_⟩
        match j, hj with
        | 0, hj => simp [Cpu.row] at hj; subst hj; exact (cSl rLn).ok h0 hok (hr 0 _ rfl)
        | 1, hj => simp [Cpu.row] at hj; subst hj; exact (cSl rOd).ok h1 hok (hr 1 _ rfl)
        | j + 2, hj => simp [Cpu.row] at hj
      · cases h
    · cases h
theorem Cpu.cold (l : List Cpu) : coldR (l.map Cpu.row) = l.map Cpu.row := by
  induction l with
  | nil => simp [coldR]
  | cons e l ih => simp [coldR, coldC, AI.cold, ih, Cpu.row, Ln.cold, Od.cold, irow_cold]
theorem Cpu.hcold (l : List Cpu) : coldR (l.map Cpu.hrow) = l.map Cpu.row := by
  induction l with
  | nil => simp [coldR]
  | cons e l ih => simp [coldR, coldC, AI.cold, ih, Cpu.row, Cpu.hrow, Ln.cold, Od.cold, irow_cold]
theorem Cpu.mapM (l : List Cpu) : (l.map Cpu.row).mapM cpuDec = some l := mapM_dec rCpu l
theorem Cpu.mapMc (l : List Cpu) : l.mapM (cpuDec ∘ Cpu.row) = some l := mapM_dec' rCpu l
theorem Cpu.hmapM (l : List Cpu) : (l.map Cpu.hrow).mapM cpuDec = some l := by
  rw [List.mapM_map]
  have : cpuDec ∘ Cpu.hrow = cpuDec ∘ Cpu.row := by funext e; simp [Function.comp, Cpu.dec_row, Cpu.dec_hrow]
  rw [this]; exact Cpu.mapMc l
theorem Cpu.hmapMc (l : List Cpu) : l.mapM (cpuDec ∘ Cpu.hrow) = some l := by
  have := Cpu.hmapM l
  rwa [List.mapM_map] at this
theorem Cpu.view (H : Heap) (n : Nat) (e : Cpu) : List.map (AI.view H n) e.row = e.row := by cases n <;> simp [Cpu.row, AI.view]
theorem Cpu.viewc (H : Heap) (n : Nat) : List.map (AI.view H n) ∘ Cpu.row = Cpu.row := by funext e; exact Cpu.view H n e
theorem Cpu.hview (H : Heap) (n : Nat) (e : Cpu) : List.map (AI.view H n) e.hrow = e.hrow := by cases n <;> simp [Cpu.hrow, AI.view]
theorem Cpu.hviewc (H : Heap) (n : Nat) : List.map (AI.view H n) ∘ Cpu.hrow = Cpu.hrow := by funext e; exact Cpu.hview H n e
theorem Cpu.hotR (l : List Cpu) : AI.hotR (l.map Cpu.hrow) = true := by
  induction l with
  | nil => simp [AI.hotR]
  | cons e l ih => simp [AI.hotR, hotC, hot, ih, Cpu.hrow, Ln.hotR, Od.hotR, irow_hotR]
theorem Cpu.ren (n : Nat) (th : List Nat) (e : Cpu) : List.map (AI.ren n th) e.row = e.row := by simp [Cpu.row, AI.ren]
theorem Cpu.renc (n : Nat) (th : List Nat) : List.map (AI.ren n th) ∘ Cpu.row = Cpu.row := by funext e; exact Cpu.ren n th e
theorem Cpu.low (n : Nat) (e : Cpu) : e.row.all (lowA n) = true := by simp [Cpu.row, lowA]
theorem Cpu.hlow (n : Nat) (e : Cpu) : e.hrow.all (lowA n) = true := by simp [Cpu.hrow, lowA]
attribute [local simp] Cpu.hlow Cpu.eta Cpu.dec_row Cpu.dec_hrow Cpu.cold Cpu.hcold Cpu.mapM Cpu.mapMc Cpu.hmapM Cpu.hmapMc Cpu.view Cpu.viewc Cpu.hview Cpu.hviewc Cpu.hotR Cpu.ren Cpu.renc Cpu.low

def okSP (s p : Int) : Bool := decide (1 ≤ s ∧ s ≤ 16 ∧ 0 ≤ p ∧ p < 64)
theorem tlRight_pure : PureOk Try.prog 103 (argM (cInt .i64) fun s => argM (cInt .i64) fun p => finM (some (.v (.bool (okSP s p))))) := by
  refine pure2 Try.func103 rfl ?_
  rintro s p r hr
  simp only [Option.some.injEq] at hr
  subst hr
  refine body_gen noOrc_ok fxMix (by kernel_rfl) (by simp [Try.ntmps103]) ?_
  intro C cP cI cN cD cF cA cR cL
  replace cI : C.inl = fun _ => false := cI
  replace cR : C.rd = fun _ => none := cR
  replace cD : C.dyn = fun _ => [] := cD
  clear cP cN cF cA
  unfold okSP
  by_cases h3 : 1 ≤ s <;> by_cases h4 : s ≤ 16 <;> by_cases h5 : 0 ≤ p <;> by_cases h6 : p < 64 <;> simp [Try.ntmps103, Try.results103, cSl, cI, cD, cR, h3, h4, h5, h6]
def Ln.at (x : Ln) (s p : Int) : Bool := decide (x.space = s ∧ x.page = p)
def rCapL : RCod (Int × Int) := rTwo (cFp (rI .i64)) (cFp (rI .i64))
theorem findL1_pure : PureOk Try.prog 221 (argM (cAgg rLn) fun x => argM (cFp (rI .i64)) fun a => argM (cFp (rI .i64)) fun b => finM (some (.v (.bool (x.at a b))))) := by
  refine pure3 Try.func221 rfl ?_
  rintro x a b r hr
  simp only [Option.some.injEq] at hr
  subst hr
  refine body_gen noOrc_ok fxMix (by kernel_rfl) (by simp [Try.ntmps221]) ?_
  intro C cP cI cN cD cF cA cR cL
  replace cI : C.inl = fun _ => false := cI
  replace cR : C.rd = fun _ => none := cR
  replace cD : C.dyn = fun _ => [] := cD
  clear cP cN cF cA
  unfold Ln.at
  by_cases h1 : x.space = a <;> by_cases h2 : x.page = b <;> simp [Try.ntmps221, Try.results221, cSl, cI, cD, cR, rLn, Ln.row, lnDec, rI, irow, h1, h2]
theorem findLI_pure : PureOk Try.prog 168 (argM (cSl rLn) fun l => argM (cFn 221 rCapL) fun cp => finM (if l.length ≤ 4294967296 then some (.v (.int .i64 (idxP ((fun x => x.at cp.1 cp.2)) l))) else none)) := by
  refine pure2 Try.func168 rfl ?_
  rintro l cp r hr
  by_cases hc : l.length ≤ 4294967296
  case neg => rw [if_neg hc] at hr; cases hr
  rw [if_pos hc] at hr
  simp only [Option.some.injEq] at hr
  subst hr
  refine body_gen (noOrc_ok.withP findL1_pure) fxMix (by kernel_rfl) (by simp [Try.ntmps168]) ?_
  intro C cP cI cN cD cF cA cR cL
  have cp0 := orcP findL1_pure (C := C) (by rw [cP]; rfl)
  replace cI : C.inl = fun _ => false := cI
  replace cR : C.rd = fun _ => none := cR
  replace cD : C.dyn = fun _ => [] := cD
  clear cP cN cF cA
  simp [Try.ntmps168, Try.results168, cSl, cp0, cI, cD, cR, rLn, Ln.row, lnDec, rCapL, rI, irow, irowDec]
  refine loop_for l.length (fun k (_ : Unit) => ([(0, .fsl false 3 (l.map Ln.row)), (1, .fn 221 [.fptr (irow .i64 cp.1) 0, .fptr (irow .i64 cp.2) 0]), (7, .v (.int .i64 l.length)), (8, .v (.int .i64 k))], [])) (fun k _ => ((l.drop k).findIdx? ((fun x => x.at cp.1 cp.2))).map (· + k) = l.findIdx? ((fun x => x.at cp.1 cp.2))) () hc (by simp) (by simp [rLn, Ln.row, lnDec, rCapL, rI, irow, irowDec]) ?_ ?_
  · intro k _ hk hall hw
    by_cases q : ((fun x => x.at cp.1 cp.2)) l[k] = true
    · rw [find_drop hk, if_pos q] at hall
      try simp at q
      simp [Try.ntmps168, Try.results168, cSl, cp0, cI, cD, cR, hk, hw, rLn, Ln.row, lnDec, rCapL, rI, irow, irowDec, q, idxP, ← hall]
    · rw [find_drop hk, if_neg q] at hall
      try simp at q
      simp [Try.ntmps168, Try.results168, cSl, cp0, cI, cD, cR, hk, hw, rLn, Ln.row, lnDec, rCapL, rI, irow, irowDec, q]
      simpa using hall
  · intro _ hall
    simp at hall
    simp [Try.ntmps168, Try.results168, cSl, cp0, cI, cD, cR, idxP, ← hall]
def tlFind (l : List Ln) (s p : Int) : Int := idxP (fun x => x.at s p) l
theorem tlFind_iff (l : List Ln) (s p : Int) : 0 ≤ tlFind l s p ↔ l.any (·.at s p) = true := idxP_iff (p := fun x : Ln => x.at s p) (l := l)
theorem tlFind_pure : PureOk Try.prog 200 (argM (cSl rLn) fun l => argM (cInt .i64) fun s => argM (cInt .i64) fun p => finM (if l.length ≤ 4294967296 then some (.v (.int .i64 (tlFind l s p))) else none)) := by
  refine pure3 Try.func200 rfl ?_
  rintro l s p r hr
  by_cases hc : l.length ≤ 4294967296
  case neg => rw [if_neg hc] at hr; cases hr
  rw [if_pos hc] at hr
  simp only [Option.some.injEq] at hr
  subst hr
  refine body_gen (noOrc_ok.withP findLI_pure) fxMix (by kernel_rfl) (by simp [Try.ntmps200]) ?_
  intro C cP cI cN cD cF cA cR cL
  have cp0 := orcP findLI_pure (C := C) (by rw [cP]; rfl)
  replace cI : C.inl = fun _ => false := cI
  replace cR : C.rd = fun _ => none := cR
  replace cD : C.dyn = fun _ => [] := cD
  clear cP cN cF cA
  simp [Try.ntmps200, Try.results200, cSl, cp0, cI, cD, cR, rLn, rCapL, rI, irow, irowDec, hc, tlFind]
def newE (n : Int) : AVal := if n < 1 ∨ 4 < n then .v (.tuple #[.slice none 0 0, .int .i64 1]) else .tup [.fsl true 2 (List.replicate n.toNat [.v (.slice none 0 0), .v (.slice none 0 0)]), .v (.int .i64 0)]
theorem newT_pure : PureOk Try.prog 199 (argM (cInt .i64) fun n => finM (some (newE n))) := by
  refine pure1 Try.func199 rfl ?_
  rintro n r hr
  simp only [Option.some.injEq] at hr
  subst hr
  refine body_gen noOrc_ok fxMix (by kernel_rfl) (by simp [Try.ntmps199]) ?_
  intro C cP cI cN cD cF cA cR cL
  replace cI : C.inl = fun _ => false := cI
  replace cR : C.rd = fun _ => none := cR
  replace cD : C.dyn = fun _ => [] := cD
  clear cP cN cF cA
  unfold newE
  by_cases h1 : n < 1
  · simp [Try.ntmps199, Try.results199, cSl, cI, cD, cR, h1]
  by_cases h2 : 4 < n
  · simp [Try.ntmps199, Try.results199, cSl, cI, cD, cR, h1, h2]
  · obtain ⟨k, rfl⟩ := Int.eq_ofNat_of_zero_le (show 0 ≤ n by omega)
    have h3 : k = 1 ∨ k = 2 ∨ k = 3 ∨ k = 4 := by omega
    rcases h3 with rfl | rfl | rfl | rfl <;> simp [Try.ntmps199, Try.results199, cSl, cI, cD, cR]
end
section
attribute [local simp] Ln.eta Ln.cold Ln.mapM Ln.mapMc Ln.view Ln.viewc Ln.hotR Ln.ren Ln.renc Ln.low Ln.tau Ln.tauc Ln.bare Ln.flat Ln.flat1 Ln.mapMt Ln.mapMd Ln.coldt Ln.coldd Ln.hotRt Ln.hotRd
attribute [local simp] Od.eta Od.cold Od.mapM Od.mapMc Od.view Od.viewc Od.hotR Od.ren Od.renc Od.low Od.tau Od.tauc Od.bare Od.flat Od.flat1 Od.mapMt Od.mapMd Od.coldt Od.coldd Od.hotRt Od.hotRd
attribute [local simp] Cpu.eta Cpu.dec_row Cpu.dec_hrow Cpu.cold Cpu.hcold Cpu.mapM Cpu.mapMc Cpu.hmapM Cpu.hmapMc Cpu.view Cpu.viewc Cpu.hview Cpu.hviewc Cpu.hotR Cpu.ren Cpu.renc Cpu.low Cpu.hlow
def lineGo (seen : List Ln) : List Ln → Bool
  | [] => true
  | x :: r => okSP x.space x.page && !(seen.any (·.at x.space x.page)) && lineGo (seen ++ [x]) r
def okOd (o : Od) : Bool := okSP o.space (max o.page 0) && decide (-1 ≤ o.page)
def cpuE (c : Cpu) : Int := if 8 < c.lines.length ∨ 4 < c.orders.length then 2 else if (lineGo [] c.lines && c.orders.all okOd) = true then 0 else 3
def tlGo : List Cpu → Int
  | [] => 0
  | c :: r => if cpuE c = 0 then tlGo r else cpuE c
def tlCheck (l : List Cpu) : Int := if l.length < 1 ∨ 4 < l.length then 1 else tlGo l
theorem tlCheck_pure : PureOk Try.prog 164 (argM (cSl rCpu) fun l => finM (some (.v (.int .i64 (tlCheck l))))) := by
  refine pure1 Try.func164 rfl ?_
  rintro l r hr
  simp only [Option.some.injEq] at hr
  subst hr
  refine body_gen (((noOrc_ok.withP newT_pure).withP tlRight_pure).withP tlFind_pure) fxMix (by kernel_rfl) (by simp [Try.ntmps164]) ?_
  intro C cP cI cN cD cF cA cR cL
  have cp0 := orcP newT_pure (C := C) (by rw [cP]; rfl)
  have cp1 := orcP tlRight_pure (C := C) (by rw [cP]; rfl)
  have cp2 := orcP tlFind_pure (C := C) (by rw [cP]; rfl)
  replace cI : C.inl = fun _ => false := cI
  replace cR : C.rd = fun _ => none := cR
  replace cD : C.dyn = fun _ => [] := cD
  clear cP cN cF cA
  unfold tlCheck
  by_cases h0 : l.length < 1
  · have e : l = [] := List.length_eq_zero_iff.1 (by omega)
    subst e
    have hN : newE 0 = .v (.tuple #[.slice none 0 0, .int .i64 1]) := rfl
    simp [Try.ntmps164, Try.results164, cSl, cp0, cp1, cp2, cI, cD, cR, rCpu, hN]
  by_cases h1 : 4 < l.length
  · have hN : newE (l.length : Int) = .v (.tuple #[.slice none 0 0, .int .i64 1]) := by unfold newE; rw [if_pos (by omega)]
    simp [Try.ntmps164, Try.results164, cSl, cp0, cp1, cp2, cI, cD, cR, rCpu, hN, h1]
  have hN : newE (l.length : Int) = .tup [.fsl true 2 (List.replicate l.length [.v (.slice none 0 0), .v (.slice none 0 0)]), .v (.int .i64 0)] := by unfold newE; rw [if_neg (by omega)]; rfl
  rw [if_neg (by omega)]
  simp [Try.ntmps164, Try.results164, cSl, cp0, cp1, cp2, cI, cD, cR, rCpu, hN]
  refine loop_for l.length (fun k (_ : Unit) => ([(20, .fsl false 2 (l.map Cpu.row)), (21, .v (.int .i64 l.length)), (22, .v (.int .i64 k))], [])) (fun k _ => tlGo (l.drop k) = tlGo l) () (by omega) (by simp) (by simp) ?_ ?_
  · rintro k _ hk hall hw
    rw [List.drop_eq_getElem_cons hk, tlGo] at hall
    generalize hck : l[k] = c at *
    obtain ⟨L, O⟩ := c
    by_cases b1 : 8 < L.length
    · have b1' : (8 : Int) < L.length := by omega
      have hE : cpuE ⟨L, O⟩ = 2 := by unfold cpuE; rw [if_pos (.inl b1)]
      rw [hE] at hall
      simp [Try.ntmps164, Try.results164, cSl, cp0, cp1, cp2, cI, cD, cR, rCpu, cpuDec, Cpu.row, hk, hw, hck, b1, b1', ← hall]
      done
    have b1' : ¬ (8 : Int) < L.length := by omega
    by_cases b2 : 4 < O.length
    · have b2' : (4 : Int) < O.length := by omega
      have hE : cpuE ⟨L, O⟩ = 2 := by unfold cpuE; rw [if_pos (.inr b2)]
      rw [hE] at hall
      simp [Try.ntmps164, Try.results164, cSl, cp0, cp1, cp2, cI, cD, cR, rCpu, cpuDec, Cpu.row, hk, hw, hck, b1, b1', b2, b2', ← hall]
      done
    have b2' : ¬ (4 : Int) < O.length := by omega
    have hE : cpuE ⟨L, O⟩ = if (lineGo [] L && O.all okOd) = true then 0 else 3 := by unfold cpuE; rw [if_neg (by simp; omega)]
    rw [hE] at hall
    simp [Try.ntmps164, Try.results164, cSl, cp0, cp1, cp2, cI, cD, cR, rCpu, cpuDec, Cpu.row, hk, hw, hck, b1, b1', b2, b2']
    refine loop_for L.length (fun i (_ : Unit) => ([(6, .ptr 0 2 0 0), (20, .fsl false 2 (l.map Cpu.row)), (21, .v (.int .i64 l.length)), (22, .v (.int .i64 k)), (37, .fsl false 3 (L.map Ln.row)), (38, .v (.int .i64 L.length)), (39, .v (.int .i64 i))], [some (2, [Cpu.row ⟨L, O⟩])])) (fun i _ => lineGo (L.take i) (L.drop i) = lineGo [] L) () (by omega) (by simp) (by simp [Cpu.row]) ?_ ?_
    · rintro i _ hi hal2 hwi
      have hil : i ≤ L.length := by omega
      have hi4 : i ≤ 4294967296 := by omega
      have hmn : min i L.length = i := by omega
      rw [List.drop_eq_getElem_cons hi, lineGo, ← List.take_succ_eq_append_getElem hi] at hal2
      by_cases c1 : okSP L[i].space L[i].page = true
      · by_cases c2 : (L.take i).any (·.at L[i].space L[i].page) = true
        · have c2' := (tlFind_iff (L.take i) _ _).2 c2
          rw [c1, c2] at hal2
          simp only [Bool.not_true, Bool.and_false, Bool.false_and] at hal2
          rw [← hal2] at hall
          simp only [Bool.false_and, Bool.false_eq_true, if_false] at hall
          simp [Try.ntmps164, Try.results164, cSl, cp0, cp1, cp2, cI, cD, cR, rLn, lnDec, Ln.row, Cpu.row, hi, hwi, c1, c2', hil, hi4, hmn, ← hall]
          done
        · have c2' : ¬ 0 ≤ tlFind (L.take i) L[i].space L[i].page := fun h => c2 ((tlFind_iff _ _ _).1 h)
          simp only [Bool.not_eq_true] at c2
          rw [c1, c2] at hal2
          simp only [Bool.not_false, Bool.and_true, Bool.true_and] at hal2
          simp [Try.ntmps164, Try.results164, cSl, cp0, cp1, cp2, cI, cD, cR, rLn, lnDec, Ln.row, Cpu.row, hi, hwi, c1, c2', hil, hi4, hmn]
          exact hal2
      · simp only [Bool.not_eq_true] at c1
        rw [c1] at hal2
        simp only [Bool.false_and] at hal2
        rw [← hal2] at hall
        simp only [Bool.false_and, Bool.false_eq_true, if_false] at hall
        simp [Try.ntmps164, Try.results164, cSl, cp0, cp1, cp2, cI, cD, cR, rLn, lnDec, Ln.row, Cpu.row, hi, hwi, c1, hil, hi4, hmn, ← hall]
        done
    · rintro _ hal2
      replace hal2 : lineGo [] L = true := by rw [← hal2]; simp [lineGo]
      rw [hal2, Bool.true_and] at hall
      simp [Try.ntmps164, Try.results164, cSl, cp0, cp1, cp2, cI, cD, cR, Cpu.row]
      refine loop_for O.length (fun i (_ : Unit) => ([(20, .fsl false 2 (l.map Cpu.row)), (21, .v (.int .i64 l.length)), (22, .v (.int .i64 k)), (64, .fsl false 2 (O.map Od.row)), (65, .v (.int .i64 O.length)), (66, .v (.int .i64 i))], [])) (fun i _ => (O.drop i).all okOd = O.all okOd) () (by omega) (by simp) (by simp) ?_ ?_
      · rintro i _ hi hal3 hwi
        rw [List.drop_eq_getElem_cons hi, List.all_cons] at hal3
        have hmx : (if 0 < O[i].page then O[i].page else 0) = max O[i].page 0 := by omega
        have hmx2 : (if O[i].page > 0 then O[i].page else 0) = max O[i].page 0 := by omega
        have hmx3 : (if O[i].page < 0 then 0 else O[i].page) = max O[i].page 0 := by omega
        have hmx4 : (if 0 > O[i].page then 0 else O[i].page) = max O[i].page 0 := by omega
        by_cases c1 : okSP O[i].space (max O[i].page 0) = true
        · by_cases c2 : O[i].page < -1
          · have c3 : okOd O[i] = false := by unfold okOd; rw [c1]; simp; omega
            rw [c3, Bool.false_and] at hal3
            rw [← hal3] at hall
            simp only [Bool.false_eq_true, if_false] at hall
            simp [Try.ntmps164, Try.results164, cSl, cp0, cp1, cp2, cI, cD, cR, rOd, odDec, Od.row, hi, hwi, c1, c2, hmx, hmx2, hmx3, hmx4, ← hall]
            done
          · have c3 : okOd O[i] = true := by unfold okOd; rw [c1]; simp; omega
            rw [c3, Bool.true_and] at hal3
            simp [Try.ntmps164, Try.results164, cSl, cp0, cp1, cp2, cI, cD, cR, rOd, odDec, Od.row, hi, hwi, c1, c2, hmx, hmx2, hmx3, hmx4]
            exact hal3
        · simp only [Bool.not_eq_true] at c1
          have c3 : okOd O[i] = false := by unfold okOd; rw [c1]; simp
          rw [c3, Bool.false_and] at hal3
          rw [← hal3] at hall
          simp only [Bool.false_eq_true, if_false] at hall
          simp [Try.ntmps164, Try.results164, cSl, cp0, cp1, cp2, cI, cD, cR, rOd, odDec, Od.row, hi, hwi, c1, hmx, hmx2, hmx3, hmx4, ← hall]
          done
      · rintro _ hal3
        replace hal3 : O.all okOd = true := by rw [← hal3]; simp
        rw [hal3, if_pos rfl, if_pos rfl] at hall
        simp [Try.ntmps164, Try.results164, cSl, cp0, cp1, cp2, cI, cD, cR, hw]
        exact hall
  · rintro _ hall
    simp [tlGo] at hall
    simp [Try.ntmps164, Try.results164, cSl, cp0, cp1, cp2, cI, cD, cR, ← hall]
    done
end
section
attribute [local simp] Ln.eta Ln.cold Ln.mapM Ln.mapMc Ln.view Ln.viewc Ln.hotR Ln.ren Ln.renc Ln.low Ln.tau Ln.tauc Ln.bare Ln.flat Ln.flat1 Ln.mapMt Ln.mapMd Ln.coldt Ln.coldd Ln.hotRt Ln.hotRd
attribute [local simp] Od.eta Od.cold Od.mapM Od.mapMc Od.view Od.viewc Od.hotR Od.ren Od.renc Od.low Od.tau Od.tauc Od.bare Od.flat Od.flat1 Od.mapMt Od.mapMd Od.coldt Od.coldd Od.hotRt Od.hotRd
attribute [local simp] Cpu.eta Cpu.dec_row Cpu.dec_hrow Cpu.cold Cpu.hcold Cpu.mapM Cpu.mapMc Cpu.hmapM Cpu.hmapMc Cpu.view Cpu.viewc Cpu.hview Cpu.hviewc Cpu.hotR Cpu.ren Cpu.renc Cpu.low Cpu.hlow
theorem ln_eq (a b : Ln) : a = b ↔ (a.space = b.space ∧ a.page = b.page ∧ a.word = b.word) := by cases a; cases b; simp
theorem od_eq (a b : Od) : a = b ↔ (a.space = b.space ∧ a.page = b.page) := by cases a; cases b; simp
theorem tlCheck_len {l : List Cpu} (h : tlCheck l = 0) : 1 ≤ l.length ∧ l.length ≤ 4 := by
  unfold tlCheck at h
  split at h <;> omega
theorem tlGo_mem {l : List Cpu} : tlGo l = 0 ↔ ∀ c ∈ l, cpuE c = 0 := by
  induction l with
  | nil => simp [tlGo]
  | cons c l ih =>
    simp only [tlGo, List.mem_cons, forall_eq_or_imp]
    split
    · rename_i h; simp [h, ih]
    · rename_i h; simp [h]
theorem tlCheck_iff {l : List Cpu} : tlCheck l = 0 ↔ 1 ≤ l.length ∧ l.length ≤ 4 ∧ ∀ c ∈ l, cpuE c = 0 := by
  unfold tlCheck
  rw [← tlGo_mem]
  split
  · simp; omega
  · rename_i h
    constructor
    · intro h2; exact ⟨by omega, by omega, h2⟩
    · exact fun h2 => h2.2.2
theorem cpuE_len {c : Cpu} (h : cpuE c = 0) : c.lines.length ≤ 8 ∧ c.orders.length ≤ 4 := by
  unfold cpuE at h
  split at h
  · omega
  · omega
def tlChk (l : List Cpu) (cpu : Int) : Int := if tlCheck l = 0 then (if cpu < 0 ∨ (l.length : Int) ≤ cpu then 4 else 0) else tlCheck l
theorem tlChk_iff {l : List Cpu} {cpu : Int} : tlChk l cpu = 0 ↔ tlCheck l = 0 ∧ 0 ≤ cpu ∧ cpu < l.length := by
  unfold tlChk
  split
  · rename_i h; split
    · simp; omega
    · simp [h]; omega
  · rename_i h; simp [h]
theorem tlChk_pure : PureOk Try.prog 102 (argM (cSl rCpu) fun l => argM (cInt .i64) fun cpu => finM (some (.v (.int .i64 (tlChk l cpu))))) := by
  refine pure2 Try.func102 rfl ?_
  rintro l cpu r hr
  simp only [Option.some.injEq] at hr
  subst hr
  refine body_gen (noOrc_ok.withP tlCheck_pure) fxMix (by kernel_rfl) (by simp [Try.ntmps102]) ?_
  intro C cP cI cN cD cF cA cR cL
  have cp0 := orcP tlCheck_pure (C := C) (by rw [cP]; rfl)
  replace cI : C.inl = fun _ => false := cI
  replace cR : C.rd = fun _ => none := cR
  replace cD : C.dyn = fun _ => [] := cD
  clear cP cN cF cA
  unfold tlChk
  by_cases h0 : tlCheck l = 0
  · have hl := tlCheck_len h0
    by_cases h1 : cpu < 0
    · simp [Try.ntmps102, Try.results102, cSl, cp0, cI, cD, cR, rCpu, h0, h1]
    · by_cases h2 : (l.length : Int) ≤ cpu
      · simp [Try.ntmps102, Try.results102, cSl, cp0, cI, cD, cR, rCpu, h0, h1, h2]
      · simp [Try.ntmps102, Try.results102, cSl, cp0, cI, cD, cR, rCpu, h0, h1, h2]
  · simp [Try.ntmps102, Try.results102, cSl, cp0, cI, cD, cR, rCpu, h0]
def cpuAt (l : List Cpu) (cpu : Int) : Cpu := l[cpu.toNat]?.getD ⟨[], []⟩
theorem cpuAt_nat {l : List Cpu} {k : Nat} (hk : k < l.length) : cpuAt l k = l[k] := by simp [cpuAt, hk]
/-- what is known of a page among lines -/
def lkL (L : List Ln) (s p : Int) : Option Int := (L.find? (·.at s p)).map (·.word)
def lkW (L : List Ln) (s p : Int) : Int := if tlFind L s p < 0 then 0 else (L[(tlFind L s p).toNat]?.getD ⟨0, 0, 0⟩).word
def tlLookW (l : List Cpu) (cpu s p : Int) : Int := if tlChk l cpu = 0 then lkW (cpuAt l cpu).lines s p else 0
def tlLookB (l : List Cpu) (cpu s p : Int) : Bool := if tlChk l cpu = 0 then decide (0 ≤ tlFind (cpuAt l cpu).lines s p) else false
def idxOd (l : List Od) (p : Od) : Int := idxP (fun x => decide (p = x)) l
def rCapO : RCod Od := rCell (cFp rOd)
end
section
attribute [local simp] Ln.eta Ln.cold Ln.mapM Ln.mapMc Ln.view Ln.viewc Ln.hotR Ln.ren Ln.renc Ln.low Ln.tau Ln.tauc Ln.bare Ln.flat Ln.flat1 Ln.mapMt Ln.mapMd Ln.coldt Ln.coldd Ln.hotRt Ln.hotRd
attribute [local simp] Od.eta Od.cold Od.mapM Od.mapMc Od.view Od.viewc Od.hotR Od.ren Od.renc Od.low Od.tau Od.tauc Od.bare Od.flat Od.flat1 Od.mapMt Od.mapMd Od.coldt Od.coldd Od.hotRt Od.hotRd
attribute [local simp] Cpu.eta Cpu.dec_row Cpu.dec_hrow Cpu.cold Cpu.hcold Cpu.mapM Cpu.mapMc Cpu.hmapM Cpu.hmapMc Cpu.view Cpu.viewc Cpu.hview Cpu.hviewc Cpu.hotR Cpu.ren Cpu.renc Cpu.low Cpu.hlow
def tlDoneB (l : List Cpu) (o : Od) : Bool := if tlCheck l = 0 then !(l.any (fun c : Cpu => decide (o ∈ c.orders))) else false
theorem fill1_pure : PureOk Try.prog 107 (argM (cAgg rLn) fun x => argM (cFp (rI .i64)) fun a => argM (cFp (rI .i64)) fun b => finM (some (.v (.bool (x.at a b))))) := by
  refine pure3 Try.func107 rfl ?_
  rintro x a b r hr
  simp only [Option.some.injEq] at hr
  subst hr
  refine body_gen noOrc_ok fxMix (by kernel_rfl) (by simp [Try.ntmps107]) ?_
  intro C cP cI cN cD cF cA cR cL
  replace cI : C.inl = fun _ => false := cI
  replace cR : C.rd = fun _ => none := cR
  replace cD : C.dyn = fun _ => [] := cD
  clear cP cN cF cA
  unfold Ln.at
  by_cases h1 : x.space = a <;> by_cases h2 : x.page = b <;> simp [Try.ntmps107, Try.results107, cSl, cI, cD, cR, rLn, Ln.row, lnDec, rI, irow, h1, h2]
end
section
attribute [local simp] Ln.eta Ln.cold Ln.mapM Ln.mapMc Ln.view Ln.viewc Ln.hotR Ln.ren Ln.renc Ln.low Ln.tau Ln.tauc Ln.bare Ln.flat Ln.flat1 Ln.mapMt Ln.mapMd Ln.coldt Ln.coldd Ln.hotRt Ln.hotRd
attribute [local simp] Od.eta Od.cold Od.mapM Od.mapMc Od.view Od.viewc Od.hotR Od.ren Od.renc Od.low Od.tau Od.tauc Od.bare Od.flat Od.flat1 Od.mapMt Od.mapMd Od.coldt Od.coldd Od.hotRt Od.hotRd
attribute [local simp] Cpu.eta Cpu.dec_row Cpu.dec_hrow Cpu.cold Cpu.hcold Cpu.mapM Cpu.mapMc Cpu.hmapM Cpu.hmapMc Cpu.view Cpu.viewc Cpu.hview Cpu.hviewc Cpu.hotR Cpu.ren Cpu.renc Cpu.low Cpu.hlow
theorem fillI_pure : PureOk Try.prog 168 (argM (cSl rLn) fun l => argM (cFn 107 rCapL) fun cp => finM (if l.length ≤ 4294967296 then some (.v (.int .i64 (idxP ((fun x => x.at cp.1 cp.2)) l))) else none)) := by
  refine pure2 Try.func168 rfl ?_
  rintro l cp r hr
  by_cases hc : l.length ≤ 4294967296
  case neg => rw [if_neg hc] at hr; cases hr
  rw [if_pos hc] at hr
  simp only [Option.some.injEq] at hr
  subst hr
  refine body_gen (noOrc_ok.withP fill1_pure) fxMix (by kernel_rfl) (by simp [Try.ntmps168]) ?_
  intro C cP cI cN cD cF cA cR cL
  have cp0 := orcP fill1_pure (C := C) (by rw [cP]; rfl)
  replace cI : C.inl = fun _ => false := cI
  replace cR : C.rd = fun _ => none := cR
  replace cD : C.dyn = fun _ => [] := cD
  clear cP cN cF cA
  simp [Try.ntmps168, Try.results168, cSl, cp0, cI, cD, cR, rLn, Ln.row, lnDec, rCapL, rI, irow, irowDec]
  refine loop_for l.length (fun k (_ : Unit) => ([(0, .fsl false 3 (l.map Ln.row)), (1, .fn 107 [.fptr (irow .i64 cp.1) 0, .fptr (irow .i64 cp.2) 0]), (7, .v (.int .i64 l.length)), (8, .v (.int .i64 k))], [])) (fun k _ => ((l.drop k).findIdx? ((fun x => x.at cp.1 cp.2))).map (· + k) = l.findIdx? ((fun x => x.at cp.1 cp.2))) () hc (by simp) (by simp [rLn, Ln.row, lnDec, rCapL, rI, irow, irowDec]) ?_ ?_
  · intro k _ hk hall hw
    by_cases q : ((fun x => x.at cp.1 cp.2)) l[k] = true
    · rw [find_drop hk, if_pos q] at hall
      try simp at q
      simp [Try.ntmps168, Try.results168, cSl, cp0, cI, cD, cR, hk, hw, rLn, Ln.row, lnDec, rCapL, rI, irow, irowDec, q, idxP, ← hall]
    · rw [find_drop hk, if_neg q] at hall
      try simp at q
      simp [Try.ntmps168, Try.results168, cSl, cp0, cI, cD, cR, hk, hw, rLn, Ln.row, lnDec, rCapL, rI, irow, irowDec, q]
      simpa using hall
  · intro _ hall
    simp at hall
    simp [Try.ntmps168, Try.results168, cSl, cp0, cI, cD, cR, idxP, ← hall]
theorem fillDelNm : (Try.f107.name = "runtime.NumGoroutine") = False := eq_false (beq_eq_false_iff_ne.1 fxFm107)
theorem fillDel : InlOk Try.prog 106 (own1 rLn (argG (cFn 107 rCapL) fun cp => finG (if True then some ((.esl, [])) else none)) (fun l => argG (cFn 107 rCapL) fun cp => finG (if l.length ≤ 1048576 then some ((.osl 0 3 0 (l.filter (fun x => !((fun x => x.at cp.1 cp.2) x))).length l.length, [some (3, (l.filter (fun x => !((fun x => x.at cp.1 cp.2) x))).map Ln.row ++ List.replicate (l.length - (l.filter (fun x => !((fun x => x.at cp.1 cp.2) x))).length) [.v (.int .i64 0), .v (.int .i64 0), .v (.int .u32 0)])])) else none))) := by
  refine own1_1 Ln.exact Try.func106 rfl ?_ ?_
  · rintro cp r H' hr
    by_cases hc : True
    case neg => rw [if_neg hc] at hr; cases hr
    rw [if_pos hc] at hr
    simp only [Option.some.injEq, Prod.mk.injEq] at hr
    obtain ⟨rfl, rfl⟩ := hr
    refine bodyI_of ((noOrc_ok.withP fill1_pure).withP fillI_pure) fxMix (by kernel_rfl) (by simp [Try.ntmps106]) ?_
    intro C cP cI cN cD cF cA cR cL
    have cp0 := orcP fill1_pure (C := C) (by rw [cP]; rfl)
    have cp1 := orcP fillI_pure (C := C) (by rw [cP]; rfl)
    replace cI : C.inl = fun _ => false := cI
    replace cR : C.rd = fun _ => none := cR
    replace cD : C.dyn = fun _ => [] := cD
    clear cP cN cF cA
    simp [Try.ntmps106, Try.results106, cSl, cp0, cp1, cI, cD, cR, idxP, rLn, Ln.row, lnDec, rCapL, rI, irow, irowDec]
  · rintro l cp r H' hne hr
    by_cases hc : l.length ≤ 1048576
    case neg => rw [if_neg hc] at hr; cases hr
    rw [if_pos hc] at hr
    simp only [Option.some.injEq, Prod.mk.injEq] at hr
    obtain ⟨rfl, rfl⟩ := hr
    refine bodyI_of ((noOrc_ok.withP fill1_pure).withP fillI_pure) fxMix (by kernel_rfl) (by simp [Try.ntmps106]) ?_
    intro C cP cI cN cD cF cA cR cL
    have cp0 := orcP fill1_pure (C := C) (by rw [cP]; rfl)
    have cp1 := orcP fillI_pure (C := C) (by rw [cP]; rfl)
    replace cI : C.inl = fun _ => false := cI
    replace cR : C.rd = fun _ => none := cR
    replace cD : C.dyn = fun _ => [] := cD
    clear cP cN cF cA
    by_cases h1 : idxP ((fun x => x.at cp.1 cp.2)) l < 0
    · have hall := idxP_none h1
      have hf : l.filter (fun x => !((fun x => x.at cp.1 cp.2) x)) = l := by
        rw [List.filter_eq_self]
        intro x hx
        simp [hall x hx]
      have hi : idxP ((fun x => x.at cp.1 cp.2)) l = -1 := by
        have hh : ∀ z : Int, z < 0 → -1 ≤ z → z = -1 := by omega
        refine hh _ h1 ?_
        unfold idxP; split <;> omega
      have hl2 : l.length ≤ 4294967296 := by omega
      rw [hf]
      simp [Try.ntmps106, Try.results106, cSl, cp0, cp1, cI, cD, cR, hi, hl2, rLn, Ln.row, lnDec, rCapL, rI, irow, irowDec]
      exact ⟨[], by simp⟩
    · obtain ⟨i0, hi, hi0, hp0, hb0⟩ := idxP_some h1
      have hl2 : l.length ≤ 4294967296 := by omega
      have hi1 : ¬ ((i0 : Int) = -1) := by omega
      have hw0 : IntKind.i64.wrap ((i0 : Int) + 1) = ((i0 + 1 : Nat) : Int) := by rw [w64 (by omega) (by omega)]; simp
      have hne1 : ¬ l = [] := hne
      have hpos : 0 < l.length := List.length_pos_iff.2 hne
      have hstart : (l.take (i0 + 1)).filter (fun x => !((fun x => x.at cp.1 cp.2) x)) = l.take i0 := by
        rw [List.take_succ_eq_append_getElem hi0, List.filter_append]
        have e1 : (l.take i0).filter (fun x => !((fun x => x.at cp.1 cp.2) x)) = l.take i0 := by
          rw [List.filter_eq_self]
          intro x hx
          obtain ⟨j, hj, rfl⟩ := List.mem_iff_getElem.1 hx
          simp at hj
          have := hb0 j (by omega)
          simp [this]
        rw [e1]
        simp [hp0]
      simp [Try.ntmps106, Try.results106, cSl, cp0, cp1, cI, cD, cR, hi, hi1, hl2, hw0, rLn, Ln.row, lnDec, rCapL, rI, irow, irowDec]
      refine loop_inv (σ := {j : Nat // i0 < j ∧ j ≤ l.length}) (fun q => ([(0, .osl 0 3 0 l.length l.length), (1, .fn 107 [.fptr (irow .i64 cp.1) 0, .fptr (irow .i64 cp.2) 0]), (5, .v (.int .i64 ((l.take q.val).filter (fun x => !((fun x => x.at cp.1 cp.2) x))).length)), (6, .v (.int .i64 q.val))], [some (3, ((l.take q.val).filter (fun x => !((fun x => x.at cp.1 cp.2) x)) ++ l.drop ((l.take q.val).filter (fun x => !((fun x => x.at cp.1 cp.2) x))).length).map Ln.row)])) (fun q => l.length - q.val) ⟨i0 + 1, by omega, by omega⟩ ?_ ?_
      · have hm : min i0 l.length = i0 := by omega
        simp [hstart, hm, rLn, Ln.row, lnDec, rCapL, rI, irow, irowDec]
      rintro ⟨j, hj1, hj2⟩
      have hsub : ((l.take j).filter (fun x => !((fun x => x.at cp.1 cp.2) x))).length ≤ j := by
        have := (List.filter_sublist (l := l.take j) (p := fun x => !((fun x => x.at cp.1 cp.2) x))).length_le
        rw [List.length_take] at this; omega
      have hlow : ∀ (k n : Nat) (x : Row), x ∈ List.drop k (l.map Ln.row) → ∀ a ∈ x, lowA n a = true := by
        intro k n x hx
        obtain ⟨y, _, rfl⟩ := List.mem_map.1 (List.mem_of_mem_drop hx)
        exact List.all_eq_true.1 (Ln.low n y)
      have hnx : ∀ (hj : j < l.length), (l.take (j + 1)).filter (fun x => !((fun x => x.at cp.1 cp.2) x)) = (l.take j).filter (fun x => !((fun x => x.at cp.1 cp.2) x)) ++ (if (fun x => x.at cp.1 cp.2) l[j] = true then [] else [l[j]]) := by
        intro hj
        rw [List.take_succ_eq_append_getElem hj, List.filter_append]
        by_cases q : (fun x => x.at cp.1 cp.2) l[j] = true
        · simp [q]
        · simp [q]
      generalize hF : (l.take j).filter (fun x => !((fun x => x.at cp.1 cp.2) x)) = F at *
      have hwj : IntKind.i64.wrap ((j : Int) + 1) = ((j + 1 : Nat) : Int) := by rw [w64 (by omega) (by omega)]; simp
      have hwF : IntKind.i64.wrap ((F.length : Int) + 1) = ((F.length + 1 : Nat) : Int) := by rw [w64 (by omega) (by omega)]; simp
      have hFl : F.length ≤ l.length := by omega
      have hlen : F.length + (l.length - F.length) = l.length := by omega
      have hlen2 : (F ++ l.drop F.length).length = l.length := by simp; omega
      rcases Nat.lt_or_ge j l.length with hj | hj
      · replace hnx := hnx hj
        have hget : (F ++ l.drop F.length)[j]? = some l[j] := by
          rw [List.getElem?_append_right (by omega), List.getElem?_drop, show F.length + (j - F.length) = j by omega, List.getElem?_eq_getElem hj]
        by_cases q : (fun x => x.at cp.1 cp.2) l[j] = true
        · simp only [q, if_true, List.append_nil] at hnx
          have hlr : ((F ++ l.drop F.length).map Ln.row).length = l.length := by simpa using hlen2
          have hgr : ((F ++ l.drop F.length).map Ln.row)[j]? = some (Ln.row l[j]) := by simp only [List.getElem?_map, hget, Option.map_some]
          generalize hX : (F ++ l.drop F.length).map Ln.row = X at *
          have hgj : ∀ (h : j < X.length), X[j] = Ln.row l[j] := by
            intro h; rw [List.getElem?_eq_getElem h] at hgr; exact Option.some.inj hgr
          simp [Try.ntmps106, Try.results106, cSl, cp0, cp1, cI, cD, cR, hj, hwj, hlr, hgr, hgj, q, fillDelNm, rLn, Ln.row, lnDec, rCapL, rI, irow, irowDec]
          refine ⟨j + 1, ?_⟩
          simp [hnx, ← hX]
          exact ⟨by omega, ⟨by omega, by omega⟩, hlow _ _⟩
        · simp only [q, if_false, Bool.false_eq_true] at hnx
          have hlr : ((F ++ l.drop F.length).map Ln.row).length = l.length := by simpa using hlen2
          have hgr : ((F ++ l.drop F.length).map Ln.row)[j]? = some (Ln.row l[j]) := by simp only [List.getElem?_map, hget, Option.map_some]
          have hFj : F.length < l.length := by omega
          have hset : ((F ++ l.drop F.length).map Ln.row).set F.length (Ln.row l[j]) = ((F ++ [l[j]]) ++ l.drop (F.length + 1)).map Ln.row := by
            rw [List.drop_eq_getElem_cons hFj, List.map_append, List.set_append_right _ _ (by simp)]
            simp only [List.length_map, Nat.sub_self, List.map_cons, List.set_cons_zero, List.map_append, List.map_nil, List.append_assoc, List.cons_append, List.nil_append]
          have hgF0 : ((F ++ l.drop F.length).map Ln.row)[F.length]? = some (Ln.row l[F.length]) := by
            rw [List.getElem?_map, List.getElem?_append_right (by omega), List.getElem?_drop, Nat.sub_self, Nat.add_zero, List.getElem?_eq_getElem hFj]; rfl
          generalize hX : (F ++ l.drop F.length).map Ln.row = X at *
          have hgj : ∀ (h : j < X.length), X[j] = Ln.row l[j] := by
            intro h; rw [List.getElem?_eq_getElem h] at hgr; exact Option.some.inj hgr
          simp only [Bool.not_eq_true] at q
          have hgF : ∀ (h : F.length < X.length), X[F.length] = Ln.row l[F.length] := by
            intro h; rw [List.getElem?_eq_getElem h] at hgF0; exact Option.some.inj hgF0
          simp [Try.ntmps106, Try.results106, cSl, cp0, cp1, cI, cD, cR, hj, hwj, hwF, hFj, hlr, hgr, hgj, hgF, q, fillDelNm, rLn, Ln.row, lnDec, rCapL, rI, irow, irowDec]
          refine ⟨j + 1, by omega, ?_⟩
          simp [hnx]
          refine ⟨?_, ⟨by omega, by omega⟩, hlow _ _⟩
          refine Eq.trans ?_ hset.symm
          simp [rLn, Ln.row, lnDec, rCapL, rI, irow, irowDec]
      · have hje : j = l.length := by omega
        subst hje
        rw [List.take_length] at hF
        rw [hF]
        simp [Try.ntmps106, Try.results106, cSl, cp0, cp1, cI, cD, cR, fillDelNm, hFl, hlen, rLn, Ln.row, lnDec, rCapL, rI, irow, irowDec]
        exact ⟨[], by simp⟩
def Ln.hit (x : Ln) (o : Od) : Bool := decide (x.space = o.space ∧ (o.page < 0 ∨ x.page = o.page))
theorem forget1_pure : PureOk Try.prog 167 (argM (cAgg rLn) fun x => argM (cFp rOd) fun o => finM (some (.v (.bool (x.hit o))))) := by
  refine pure2 Try.func167 rfl ?_
  rintro x o r hr
  simp only [Option.some.injEq] at hr
  subst hr
  refine body_gen noOrc_ok fxMix (by kernel_rfl) (by simp [Try.ntmps167]) ?_
  intro C cP cI cN cD cF cA cR cL
  replace cI : C.inl = fun _ => false := cI
  replace cR : C.rd = fun _ => none := cR
  replace cD : C.dyn = fun _ => [] := cD
  clear cP cN cF cA
  unfold Ln.hit
  by_cases h1 : x.space = o.space <;> by_cases h2 : o.page < 0 <;> by_cases h3 : x.page = o.page <;> simp [Try.ntmps167, Try.results167, cSl, cI, cD, cR, rLn, Ln.row, lnDec, rOd, odDec, Od.row, h1, h2, h3]
theorem forgetI_pure : PureOk Try.prog 168 (argM (cSl rLn) fun l => argM (cFn 167 rCapO) fun cp => finM (if l.length ≤ 4294967296 then some (.v (.int .i64 (idxP ((fun x => x.hit cp)) l))) else none)) := by
  refine pure2 Try.func168 rfl ?_
  rintro l cp r hr
  by_cases hc : l.length ≤ 4294967296
  case neg => rw [if_neg hc] at hr; cases hr
  rw [if_pos hc] at hr
  simp only [Option.some.injEq] at hr
  subst hr
  refine body_gen (noOrc_ok.withP forget1_pure) fxMix (by kernel_rfl) (by simp [Try.ntmps168]) ?_
  intro C cP cI cN cD cF cA cR cL
  have cp0 := orcP forget1_pure (C := C) (by rw [cP]; rfl)
  replace cI : C.inl = fun _ => false := cI
  replace cR : C.rd = fun _ => none := cR
  replace cD : C.dyn = fun _ => [] := cD
  clear cP cN cF cA
  simp [Try.ntmps168, Try.results168, cSl, cp0, cI, cD, cR, rLn, Ln.row, lnDec, rCapO, rOd, odDec, Od.row]
  refine loop_for l.length (fun k (_ : Unit) => ([(0, .fsl false 3 (l.map Ln.row)), (1, .fn 167 [.fptr cp.row 0]), (7, .v (.int .i64 l.length)), (8, .v (.int .i64 k))], [])) (fun k _ => ((l.drop k).findIdx? ((fun x => x.hit cp))).map (· + k) = l.findIdx? ((fun x => x.hit cp))) () hc (by simp) (by simp [rLn, Ln.row, lnDec, rCapO, rOd, odDec, Od.row]) ?_ ?_
  · intro k _ hk hall hw
    by_cases q : ((fun x => x.hit cp)) l[k] = true
    · rw [find_drop hk, if_pos q] at hall
      try simp at q
      simp [Try.ntmps168, Try.results168, cSl, cp0, cI, cD, cR, hk, hw, rLn, Ln.row, lnDec, rCapO, rOd, odDec, Od.row, q, idxP, ← hall]
    · rw [find_drop hk, if_neg q] at hall
      try simp at q
      simp [Try.ntmps168, Try.results168, cSl, cp0, cI, cD, cR, hk, hw, rLn, Ln.row, lnDec, rCapO, rOd, odDec, Od.row, q]
      simpa using hall
  · intro _ hall
    simp at hall
    simp [Try.ntmps168, Try.results168, cSl, cp0, cI, cD, cR, idxP, ← hall]
theorem forgetDelNm : (Try.f167.name = "runtime.NumGoroutine") = False := eq_false (beq_eq_false_iff_ne.1 fxFm167)
theorem forgetDel : InlOk Try.prog 106 (own1 rLn (argG (cFn 167 rCapO) fun cp => finG (if True then some ((.esl, [])) else none)) (fun l => argG (cFn 167 rCapO) fun cp => finG (if l.length ≤ 1048576 then some ((.osl 0 3 0 (l.filter (fun x => !((fun x => x.hit cp) x))).length l.length, [some (3, (l.filter (fun x => !((fun x => x.hit cp) x))).map Ln.row ++ List.replicate (l.length - (l.filter (fun x => !((fun x => x.hit cp) x))).length) [.v (.int .i64 0), .v (.int .i64 0), .v (.int .u32 0)])])) else none))) := by
  refine own1_1 Ln.exact Try.func106 rfl ?_ ?_
  · rintro cp r H' hr
    by_cases hc : True
    case neg => rw [if_neg hc] at hr; cases hr
    rw [if_pos hc] at hr
    simp only [Option.some.injEq, Prod.mk.injEq] at hr
    obtain ⟨rfl, rfl⟩ := hr
    refine bodyI_of ((noOrc_ok.withP forget1_pure).withP forgetI_pure) fxMix (by kernel_rfl) (by simp [Try.ntmps106]) ?_
    intro C cP cI cN cD cF cA cR cL
    have cp0 := orcP forget1_pure (C := C) (by rw [cP]; rfl)
    have cp1 := orcP forgetI_pure (C := C) (by rw [cP]; rfl)
    replace cI : C.inl = fun _ => false := cI
    replace cR : C.rd = fun _ => none := cR
    replace cD : C.dyn = fun _ => [] := cD
    clear cP cN cF cA
    simp [Try.ntmps106, Try.results106, cSl, cp0, cp1, cI, cD, cR, idxP, rLn, Ln.row, lnDec, rCapO, rOd, odDec, Od.row]
  · rintro l cp r H' hne hr
    by_cases hc : l.length ≤ 1048576
    case neg => rw [if_neg hc] at hr; cases hr
    rw [if_pos hc] at hr
    simp only [Option.some.injEq, Prod.mk.injEq] at hr
    obtain ⟨rfl, rfl⟩ := hr
    refine bodyI_of ((noOrc_ok.withP forget1_pure).withP forgetI_pure) fxMix (by kernel_rfl) (by simp [Try.ntmps106]) ?_
    intro C cP cI cN cD cF cA cR cL
    have cp0 := orcP forget1_pure (C := C) (by rw [cP]; rfl)
    have cp1 := orcP forgetI_pure (C := C) (by rw [cP]; rfl)
    replace cI : C.inl = fun _ => false := cI
    replace cR : C.rd = fun _ => none := cR
    replace cD : C.dyn = fun _ => [] := cD
    clear cP cN cF cA
    by_cases h1 : idxP ((fun x => x.hit cp)) l < 0
    · have hall := idxP_none h1
      have hf : l.filter (fun x => !((fun x => x.hit cp) x)) = l := by
        rw [List.filter_eq_self]
        intro x hx
        simp [hall x hx]
      have hi : idxP ((fun x => x.hit cp)) l = -1 := by
        have hh : ∀ z : Int, z < 0 → -1 ≤ z → z = -1 := by omega
        refine hh _ h1 ?_
        unfold idxP; split <;> omega
      have hl2 : l.length ≤ 4294967296 := by omega
      rw [hf]
      simp [Try.ntmps106, Try.results106, cSl, cp0, cp1, cI, cD, cR, hi, hl2, rLn, Ln.row, lnDec, rCapO, rOd, odDec, Od.row]
      exact ⟨[], by simp⟩
    · obtain ⟨i0, hi, hi0, hp0, hb0⟩ := idxP_some h1
      have hl2 : l.length ≤ 4294967296 := by omega
      have hi1 : ¬ ((i0 : Int) = -1) := by omega
      have hw0 : IntKind.i64.wrap ((i0 : Int) + 1) = ((i0 + 1 : Nat) : Int) := by rw [w64 (by omega) (by omega)]; simp
      have hne1 : ¬ l = [] := hne
      have hpos : 0 < l.length := List.length_pos_iff.2 hne
      have hstart : (l.take (i0 + 1)).filter (fun x => !((fun x => x.hit cp) x)) = l.take i0 := by
        rw [List.take_succ_eq_append_getElem hi0, List.filter_append]
        have e1 : (l.take i0).filter (fun x => !((fun x => x.hit cp) x)) = l.take i0 := by
          rw [List.filter_eq_self]
          intro x hx
          obtain ⟨j, hj, rfl⟩ := List.mem_iff_getElem.1 hx
          simp at hj
          have := hb0 j (by omega)
          simp [this]
        rw [e1]
        simp [hp0]
      simp [Try.ntmps106, Try.results106, cSl, cp0, cp1, cI, cD, cR, hi, hi1, hl2, hw0, rLn, Ln.row, lnDec, rCapO, rOd, odDec, Od.row]
      refine loop_inv (σ := {j : Nat // i0 < j ∧ j ≤ l.length}) (fun q => ([(0, .osl 0 3 0 l.length l.length), (1, .fn 167 [.fptr cp.row 0]), (5, .v (.int .i64 ((l.take q.val).filter (fun x => !((fun x => x.hit cp) x))).length)), (6, .v (.int .i64 q.val))], [some (3, ((l.take q.val).filter (fun x => !((fun x => x.hit cp) x)) ++ l.drop ((l.take q.val).filter (fun x => !((fun x => x.hit cp) x))).length).map Ln.row)])) (fun q => l.length - q.val) ⟨i0 + 1, by omega, by omega⟩ ?_ ?_
      · have hm : min i0 l.length = i0 := by omega
        simp [hstart, hm, rLn, Ln.row, lnDec, rCapO, rOd, odDec, Od.row]
      rintro ⟨j, hj1, hj2⟩
      have hsub : ((l.take j).filter (fun x => !((fun x => x.hit cp) x))).length ≤ j := by
        have := (List.filter_sublist (l := l.take j) (p := fun x => !((fun x => x.hit cp) x))).length_le
        rw [List.length_take] at this; omega
      have hlow : ∀ (k n : Nat) (x : Row), x ∈ List.drop k (l.map Ln.row) → ∀ a ∈ x, lowA n a = true := by
        intro k n x hx
        obtain ⟨y, _, rfl⟩ := List.mem_map.1 (List.mem_of_mem_drop hx)
        exact List.all_eq_true.1 (Ln.low n y)
      have hnx : ∀ (hj : j < l.length), (l.take (j + 1)).filter (fun x => !((fun x => x.hit cp) x)) = (l.take j).filter (fun x => !((fun x => x.hit cp) x)) ++ (if (fun x => x.hit cp) l[j] = true then [] else [l[j]]) := by
        intro hj
        rw [List.take_succ_eq_append_getElem hj, List.filter_append]
        by_cases q : (fun x => x.hit cp) l[j] = true
        · simp [q]
        · simp [q]
      generalize hF : (l.take j).filter (fun x => !((fun x => x.hit cp) x)) = F at *
      have hwj : IntKind.i64.wrap ((j : Int) + 1) = ((j + 1 : Nat) : Int) := by rw [w64 (by omega) (by omega)]; simp
      have hwF : IntKind.i64.wrap ((F.length : Int) + 1) = ((F.length + 1 : Nat) : Int) := by rw [w64 (by omega) (by omega)]; simp
      have hFl : F.length ≤ l.length := by omega
      have hlen : F.length + (l.length - F.length) = l.length := by omega
      have hlen2 : (F ++ l.drop F.length).length = l.length := by simp; omega
      rcases Nat.lt_or_ge j l.length with hj | hj
      · replace hnx := hnx hj
        have hget : (F ++ l.drop F.length)[j]? = some l[j] := by
          rw [List.getElem?_append_right (by omega), List.getElem?_drop, show F.length + (j - F.length) = j by omega, List.getElem?_eq_getElem hj]
        by_cases q : (fun x => x.hit cp) l[j] = true
        · simp only [q, if_true, List.append_nil] at hnx
          have hlr : ((F ++ l.drop F.length).map Ln.row).length = l.length := by simpa using hlen2
          have hgr : ((F ++ l.drop F.length).map Ln.row)[j]? = some (Ln.row l[j]) := by simp only [List.getElem?_map, hget, Option.map_some]
          generalize hX : (F ++ l.drop F.length).map Ln.row = X at *
          have hgj : ∀ (h : j < X.length), X[j] = Ln.row l[j] := by
            intro h; rw [List.getElem?_eq_getElem h] at hgr; exact Option.some.inj hgr
          simp [Try.ntmps106, Try.results106, cSl, cp0, cp1, cI, cD, cR, hj, hwj, hlr, hgr, hgj, q, forgetDelNm, rLn, Ln.row, lnDec, rCapO, rOd, odDec, Od.row]
          refine ⟨j + 1, ?_⟩
          simp [hnx, ← hX]
          exact ⟨by omega, ⟨by omega, by omega⟩, hlow _ _⟩
        · simp only [q, if_false, Bool.false_eq_true] at hnx
          have hlr : ((F ++ l.drop F.length).map Ln.row).length = l.length := by simpa using hlen2
          have hgr : ((F ++ l.drop F.length).map Ln.row)[j]? = some (Ln.row l[j]) := by simp only [List.getElem?_map, hget, Option.map_some]
          have hFj : F.length < l.length := by omega
          have hset : ((F ++ l.drop F.length).map Ln.row).set F.length (Ln.row l[j]) = ((F ++ [l[j]]) ++ l.drop (F.length + 1)).map Ln.row := by
            rw [List.drop_eq_getElem_cons hFj, List.map_append, List.set_append_right _ _ (by simp)]
            simp only [List.length_map, Nat.sub_self, List.map_cons, List.set_cons_zero, List.map_append, List.map_nil, List.append_assoc, List.cons_append, List.nil_append]
          have hgF0 : ((F ++ l.drop F.length).map Ln.row)[F.length]? = some (Ln.row l[F.length]) := by
            rw [List.getElem?_map, List.getElem?_append_right (by omega), List.getElem?_drop, Nat.sub_self, Nat.add_zero, List.getElem?_eq_getElem hFj]; rfl
          generalize hX : (F ++ l.drop F.length).map Ln.row = X at *
          have hgj : ∀ (h : j < X.length), X[j] = Ln.row l[j] := by
            intro h; rw [List.getElem?_eq_getElem h] at hgr; exact Option.some.inj hgr
          simp only [Bool.not_eq_true] at q
          have hgF : ∀ (h : F.length < X.length), X[F.length] = Ln.row l[F.length] := by
            intro h; rw [List.getElem?_eq_getElem h] at hgF0; exact Option.some.inj hgF0
          simp [Try.ntmps106, Try.results106, cSl, cp0, cp1, cI, cD, cR, hj, hwj, hwF, hFj, hlr, hgr, hgj, hgF, q, forgetDelNm, rLn, Ln.row, lnDec, rCapO, rOd, odDec, Od.row]
          refine ⟨j + 1, by omega, ?_⟩
          simp [hnx]
          refine ⟨?_, ⟨by omega, by omega⟩, hlow _ _⟩
          refine Eq.trans ?_ hset.symm
          simp [rLn, Ln.row, lnDec, rCapO, rOd, odDec, Od.row]
      · have hje : j = l.length := by omega
        subst hje
        rw [List.take_length] at hF
        rw [hF]
        simp [Try.ntmps106, Try.results106, cSl, cp0, cp1, cI, cD, cR, forgetDelNm, hFl, hlen, rLn, Ln.row, lnDec, rCapO, rOd, odDec, Od.row]
        exact ⟨[], by simp⟩
theorem forgetDel_inl : InlOk Try.prog 106 (frame1 (own1 rLn (argG (cFn 167 rCapO) fun cp => finG (if True then some ((.esl, [])) else none)) (fun l => argG (cFn 167 rCapO) fun cp => finG (if l.length ≤ 1048576 then some ((.osl 0 3 0 (l.filter (fun x => !((fun x => x.hit cp) x))).length l.length, [some (3, (l.filter (fun x => !((fun x => x.hit cp) x))).map Ln.row ++ List.replicate (l.length - (l.filter (fun x => !((fun x => x.hit cp) x))).length) [.v (.int .i64 0), .v (.int .i64 0), .v (.int .u32 0)])])) else none)))) := frame1_ok forgetDel
theorem fillDel_inl : InlOk Try.prog 106 (frame1 (own1 rLn (argG (cFn 107 rCapL) fun cp => finG (if True then some ((.esl, [])) else none)) (fun l => argG (cFn 107 rCapL) fun cp => finG (if l.length ≤ 1048576 then some ((.osl 0 3 0 (l.filter (fun x => !((fun x => x.at cp.1 cp.2) x))).length l.length, [some (3, (l.filter (fun x => !((fun x => x.at cp.1 cp.2) x))).map Ln.row ++ List.replicate (l.length - (l.filter (fun x => !((fun x => x.at cp.1 cp.2) x))).length) [.v (.int .i64 0), .v (.int .i64 0), .v (.int .u32 0)])])) else none)))) := frame1_ok fillDel
def zLn : Row := [.v (.int .i64 0), .v (.int .i64 0), .v (.int .u32 0)]
def forg (o : Od) (l : List Ln) : List Ln := l.filter (fun x => !(x.hit o))
theorem forget_own : InlOk Try.prog 105 (own1 rLn (argG (cAgg rOd) fun o => finG (if True then some ((.esl, [])) else none)) (fun l => argG (cAgg rOd) fun o => finG (if l.length ≤ 1048576 then some ((.osl 0 3 0 (forg o l).length l.length, [some (3, (forg o l).map Ln.row ++ List.replicate (l.length - (forg o l).length) zLn)])) else none))) := by
  refine own1_1 Ln.exact Try.func105 rfl ?_ ?_
  · rintro o r H' hr
    by_cases hc : True
    case neg => rw [if_neg hc] at hr; cases hr
    rw [if_pos hc] at hr
    simp only [Option.some.injEq, Prod.mk.injEq] at hr
    obtain ⟨rfl, rfl⟩ := hr
    refine bodyI_of (noOrc_ok.withI forgetDel_inl) fxMix (by kernel_rfl) (by simp [Try.ntmps105]) ?_
    intro C cP cI cN cD cF cA cR cL
    have cn0 := orcI forgetDel_inl (C := C) (by rw [cN]; rfl)
    replace cI := fun g => congrFun cI g
    simp only [Orc.withP, Orc.withI, Orc.withF, Orc.withD, Orc.withA, Orc.withR, Orc.withC, noOrc] at cI
    replace cR : C.rd = fun _ => none := cR
    replace cD : C.dyn = fun _ => [] := cD
    clear cP cN cF cA
    simp [Try.ntmps105, Try.results105, cSl, cn0, cI, cD, cR, rLn, lnDec, Ln.row, rCapO, rOd, odDec, Od.row]
    done
  · rintro l o r H' hne hr
    by_cases hc : l.length ≤ 1048576
    case neg => rw [if_neg hc] at hr; cases hr
    rw [if_pos hc] at hr
    simp only [Option.some.injEq, Prod.mk.injEq] at hr
    obtain ⟨rfl, rfl⟩ := hr
    refine bodyI_of (noOrc_ok.withI forgetDel_inl) fxMix (by kernel_rfl) (by simp [Try.ntmps105]) ?_
    intro C cP cI cN cD cF cA cR cL
    have cn0 := orcI forgetDel_inl (C := C) (by rw [cN]; rfl)
    replace cI := fun g => congrFun cI g
    simp only [Orc.withP, Orc.withI, Orc.withF, Orc.withD, Orc.withA, Orc.withR, Orc.withC, noOrc] at cI
    replace cR : C.rd = fun _ => none := cR
    replace cD : C.dyn = fun _ => [] := cD
    clear cP cN cF cA
    have hpos : 0 < l.length := List.length_pos_iff.2 hne
    simp [Try.ntmps105, Try.results105, cSl, cn0, cI, cD, cR, rLn, lnDec, Ln.row, rCapO, rOd, odDec, Od.row, hne, hpos, hc, forg, zLn]
    exact ⟨[], by simp⟩
theorem forget_inl : InlOk Try.prog 105 (frame1 (own1 rLn (argG (cAgg rOd) fun o => finG (if True then some ((.esl, [])) else none)) (fun l => argG (cAgg rOd) fun o => finG (if l.length ≤ 1048576 then some ((.osl 0 3 0 (forg o l).length l.length, [some (3, (forg o l).map Ln.row ++ List.replicate (l.length - (forg o l).length) zLn)])) else none)))) := frame1_ok forget_own
end
section
attribute [local simp] Ln.eta Ln.cold Ln.mapM Ln.mapMc Ln.view Ln.viewc Ln.hotR Ln.ren Ln.renc Ln.low Ln.tau Ln.tauc Ln.bare Ln.flat Ln.flat1 Ln.mapMt Ln.mapMd Ln.coldt Ln.coldd Ln.hotRt Ln.hotRd
attribute [local simp] Od.eta Od.cold Od.mapM Od.mapMc Od.view Od.viewc Od.hotR Od.ren Od.renc Od.low Od.tau Od.tauc Od.bare Od.flat Od.flat1 Od.mapMt Od.mapMd Od.coldt Od.coldd Od.hotRt Od.hotRd
attribute [local simp] Cpu.eta Cpu.dec_row Cpu.dec_hrow Cpu.cold Cpu.hcold Cpu.mapM Cpu.mapMc Cpu.hmapM Cpu.hmapMc Cpu.view Cpu.viewc Cpu.hview Cpu.hviewc Cpu.hotR Cpu.ren Cpu.renc Cpu.low Cpu.hlow
/-- which lists of a processor stay own: its lines, its orders -/
abbrev Mode := Nat → Bool × Bool
def lnA (b : Bool) (c : Nat) (L : List Ln) : AVal := if b then (if L = [] then .esl else .osl c 3 0 L.length L.length) else .fsl true 3 (L.map Ln.row)
def odA (b : Bool) (c : Nat) (O : List Od) : AVal := if b then (if O = [] then .esl else .osl c 2 0 O.length O.length) else .fsl true 2 (O.map Od.row)
def lnT (b : Bool) (L : List Ln) : Heap := if L = [] then [] else [if b then some (3, L.map Ln.row) else none]
def odT (b : Bool) (O : List Od) : Heap := if O = [] then [] else [if b then some (2, O.map Od.row) else none]
def segR (m : Bool × Bool) (c : Nat) (x : Cpu) : Row := [lnA m.1 c x.lines, odA m.2 (c + (lnT m.1 x.lines).length) x.orders]
def segT (m : Bool × Bool) (x : Cpu) : Heap := lnT m.1 x.lines ++ odT m.2 x.orders
def shT (md : Mode) : Nat → List Cpu → Heap
  | _, [] => []
  | i, x :: r => segT (md i) x ++ shT md (i + 1) r
def shR (md : Mode) : Nat → Nat → List Cpu → List Row
  | _, _, [] => []
  | i, c, x :: r => segR (md i) c x :: shR md (i + 1) (c + (segT (md i) x).length) r
theorem shT_snoc (md : Mode) (i : Nat) (l : List Cpu) (x : Cpu) : shT md i (l ++ [x]) = shT md i l ++ segT (md (i + l.length)) x := by
  induction l generalizing i with
  | nil => simp [shT]
  | cons a l ih =>
    simp only [List.cons_append, shT, ih, List.length_cons, List.append_assoc]
    rw [show i + 1 + l.length = i + (l.length + 1) by omega]
theorem shR_snoc (md : Mode) (i c : Nat) (l : List Cpu) (x : Cpu) : shR md i c (l ++ [x]) = shR md i c l ++ [segR (md (i + l.length)) (c + (shT md i l).length) x] := by
  induction l generalizing i c with
  | nil => simp [shR, shT]
  | cons a l ih =>
    simp only [List.cons_append, shR, ih, List.length_cons, shT, List.length_append]
    rw [show i + 1 + l.length = i + (l.length + 1) by omega, Nat.add_assoc]
theorem shR_len (md : Mode) (i c : Nat) (l : List Cpu) : (shR md i c l).length = l.length := by
  induction l generalizing i c with
  | nil => rfl
  | cons a l ih => simp [shR, ih]
theorem lnA_low {b : Bool} {c n : Nat} {L : List Ln} (h : c + (lnT b L).length ≤ n) : lowA n (lnA b c L) = true := by
  unfold lnA
  cases b with
  | false => simp [lowA]
  | true =>
    by_cases e : L = []
    · simp [e, lowA]
    · simp [lnT, e] at h
      simp [e, lowA]; omega
theorem odA_low {b : Bool} {c n : Nat} {O : List Od} (h : c + (odT b O).length ≤ n) : lowA n (odA b c O) = true := by
  unfold odA
  cases b with
  | false => simp [lowA]
  | true =>
    by_cases e : O = []
    · simp [e, lowA]
    · simp [odT, e] at h
      simp [e, lowA]; omega
theorem segR_low {m : Bool × Bool} {c n : Nat} {x : Cpu} (h : c + (segT m x).length ≤ n) : (segR m c x).all (lowA n) = true := by
  simp only [segT, List.length_append] at h
  simp [segR, lnA_low (b := m.1) (c := c) (n := n) (L := x.lines) (by omega), odA_low (b := m.2) (c := c + (lnT m.1 x.lines).length) (n := n) (O := x.orders) (by omega)]
theorem shR_low {md : Mode} {i c n : Nat} {l : List Cpu} (h : c + (shT md i l).length ≤ n) : ∀ r ∈ shR md i c l, r.all (lowA n) = true := by
  induction l generalizing i c with
  | nil => intro r hr; simp [shR] at hr
  | cons a l ih =>
    simp only [shT, List.length_append] at h
    intro r hr
    simp only [shR, List.mem_cons] at hr
    rcases hr with rfl | hr
    · exact segR_low (by omega)
    · exact ih (by omega) r hr
theorem shT_low {md : Mode} {i n : Nat} {l : List Cpu} : ∀ o, some o ∈ shT md i l → (o.2.all fun row => row.all (lowA n)) = true := by
  induction l generalizing i with
  | nil => intro o ho; simp [shT] at ho
  | cons a l ih =>
    intro o ho
    simp only [shT, List.mem_append, segT] at ho
    rcases ho with (ho | ho) | ho
    · unfold lnT at ho
      split at ho
      · simp at ho
      · split at ho
        · simp at ho; subst ho; simp [Ln.low]
        · simp at ho
    · unfold odT at ho
      split at ho
      · simp at ho
      · split at ho
        · simp at ho; subst ho; simp [Od.low]
        · simp at ho
    · exact ih o ho
end
section
attribute [local simp] Ln.eta Ln.cold Ln.mapM Ln.mapMc Ln.view Ln.viewc Ln.hotR Ln.ren Ln.renc Ln.low Ln.tau Ln.tauc Ln.bare Ln.flat Ln.flat1 Ln.mapMt Ln.mapMd Ln.coldt Ln.coldd Ln.hotRt Ln.hotRd
attribute [local simp] Od.eta Od.cold Od.mapM Od.mapMc Od.view Od.viewc Od.hotR Od.ren Od.renc Od.low Od.tau Od.tauc Od.bare Od.flat Od.flat1 Od.mapMt Od.mapMd Od.coldt Od.coldd Od.hotRt Od.hotRd
attribute [local simp] Cpu.eta Cpu.dec_row Cpu.dec_hrow Cpu.cold Cpu.hcold Cpu.mapM Cpu.mapMc Cpu.hmapM Cpu.hmapMc Cpu.view Cpu.viewc Cpu.hview Cpu.hviewc Cpu.hotR Cpu.ren Cpu.renc Cpu.low Cpu.hlow
theorem lnEnt {n0 : Nat} {ρ : Env} {H T Y : Heap} {R : List Row} {k : Nat} {b : Bool} {L : List Ln} {z : AVal} (hH : H = some (2, R) :: (T ++ (lnT true L ++ Y))) (hR : R[k]? = some [lnA true (1 + T.length) L, z]) :
    Ent n0 (ρ, some (2, R.set k [lnA b (1 + T.length) L, z]) :: (T ++ (lnT b L ++ Y))) (ρ, H) := by
  subst hH
  have hk : k < R.length := (List.getElem?_eq_some_iff.1 hR).1
  cases b with
  | true =>
    have e : R.set k [lnA true (1 + T.length) L, z] = R := by
      apply List.ext_getElem?
      intro i
      by_cases h : i = k
      · subst h; rw [List.getElem?_set_self hk, hR]
      · rw [List.getElem?_set_ne (fun e => h e.symm)]
    rw [e]
    exact Ent.refl n0 _
  | false =>
    by_cases hL : L = []
    · subst hL
      have h1 : obj (some (2, R) :: (T ++ (lnT true [] ++ Y))) 0 = some (2, R) := by simp [obj]
      have h2 := Ent.cell (n0 := n0) (ρ := ρ) (j := 0) (a := .esl) (r := .fsl true 3 []) h1 hR (by simp [lnA]) .esl
      simpa [lnA, lnT] using h2
    · have h1 : obj (some (2, R) :: (T ++ (lnT true L ++ Y))) 0 = some (2, R) := by simp [obj]
      have h0 : obj (some (2, R) :: (T ++ (lnT true L ++ Y))) (1 + T.length) = some (3, L.map Ln.row) := by
        simp [obj, lnT, hL, Nat.add_comm 1]
      have h2 := Ent.frz (n0 := n0) (ρ := ρ) (n := 1 + T.length) (M := 0) (i := k) (j := 0) (len := L.length) (kc := L.length) h0 (by simp) (by intro r hr; obtain ⟨x, _, rfl⟩ := List.mem_map.1 hr; exact Ln.low 0 x) h1 (by omega) hR (by simp [lnA, hL])
      simpa [lnA, lnT, hL, Nat.add_comm 1] using h2
theorem odEnt {n0 : Nat} {ρ : Env} {H T : Heap} {R : List Row} {k : Nat} {b : Bool} {O : List Od} {z : AVal} (hH : H = some (2, R) :: (T ++ odT true O)) (hR : R[k]? = some [z, odA true (1 + T.length) O]) :
    Ent n0 (ρ, some (2, R.set k [z, odA b (1 + T.length) O]) :: (T ++ odT b O)) (ρ, H) := by
  subst hH
  have hk : k < R.length := (List.getElem?_eq_some_iff.1 hR).1
  cases b with
  | true =>
    have e : R.set k [z, odA true (1 + T.length) O] = R := by
      apply List.ext_getElem?
      intro i
      by_cases h : i = k
      · subst h; rw [List.getElem?_set_self hk, hR]
      · rw [List.getElem?_set_ne (fun e => h e.symm)]
    rw [e]
    exact Ent.refl n0 _
  | false =>
    by_cases hL : O = []
    · subst hL
      have h1 : obj (some (2, R) :: (T ++ odT true [])) 0 = some (2, R) := by simp [obj]
      have h2 := Ent.cell (n0 := n0) (ρ := ρ) (j := 1) (a := .esl) (r := .fsl true 2 []) h1 hR (by simp [odA]) .esl
      simpa [odA, odT] using h2
    · have h1 : obj (some (2, R) :: (T ++ odT true O)) 0 = some (2, R) := by simp [obj]
      have h0 : obj (some (2, R) :: (T ++ odT true O)) (1 + T.length) = some (2, O.map Od.row) := by
        simp [obj, odT, hL, Nat.add_comm 1]
      have h2 := Ent.frz (n0 := n0) (ρ := ρ) (n := 1 + T.length) (M := 0) (i := k) (j := 1) (len := O.length) (kc := O.length) h0 (by simp) (by intro r hr; obtain ⟨x, _, rfl⟩ := List.mem_map.1 hr; exact Od.low 0 x) h1 (by omega) hR (by simp [odA, hL])
      simpa [odA, odT, hL, Nat.add_comm 1] using h2
theorem lnT_len (b : Bool) (L : List Ln) : (lnT b L).length = (lnT true L).length := by unfold lnT; split <;> simp
theorem odT_len (b : Bool) (O : List Od) : (odT b O).length = (odT true O).length := by unfold odT; split <;> simp
/-- both lists of a processor: some stay own -/
theorem segEnt {n0 : Nat} {ρ : Env} {H T : Heap} {R : List Row} {k : Nat} {m : Bool × Bool} {x : Cpu} (hH : H = some (2, R) :: (T ++ segT (true, true) x)) (hR : R[k]? = some (segR (true, true) (1 + T.length) x)) :
    Ent n0 (ρ, some (2, R.set k (segR m (1 + T.length) x)) :: (T ++ segT m x)) (ρ, H) := by
  obtain ⟨b1, b2⟩ := m
  obtain ⟨L, O⟩ := x
  have hk : k < R.length := (List.getElem?_eq_some_iff.1 hR).1
  have h1 := lnEnt (n0 := n0) (ρ := ρ) (H := H) (T := T) (Y := odT true O) (R := R) (k := k) (b := b1) (L := L) (z := odA true (1 + T.length + (lnT true L).length) O) (by simpa [segT] using hH) (by simpa [segR] using hR)
  have h2 := odEnt (n0 := n0) (ρ := ρ) (H := some (2, R.set k [lnA b1 (1 + T.length) L, odA true (1 + T.length + (lnT true L).length) O]) :: (T ++ (lnT b1 L ++ odT true O))) (T := T ++ lnT b1 L) (R := R.set k [lnA b1 (1 + T.length) L, odA true (1 + T.length + (lnT true L).length) O]) (k := k) (b := b2) (O := O) (z := lnA b1 (1 + T.length) L) (by simp) (by rw [List.getElem?_set_self hk, List.length_append, lnT_len b1, Nat.add_assoc])
  have h3 := Ent.trans h2 h1
  rw [List.set_set, List.length_append, List.append_assoc, ← Nat.add_assoc] at h3
  exact h3
end
section
attribute [local simp] Ln.eta Ln.cold Ln.mapM Ln.mapMc Ln.view Ln.viewc Ln.hotR Ln.ren Ln.renc Ln.low Ln.tau Ln.tauc Ln.bare Ln.flat Ln.flat1 Ln.mapMt Ln.mapMd Ln.coldt Ln.coldd Ln.hotRt Ln.hotRd
attribute [local simp] Od.eta Od.cold Od.mapM Od.mapMc Od.view Od.viewc Od.hotR Od.ren Od.renc Od.low Od.tau Od.tauc Od.bare Od.flat Od.flat1 Od.mapMt Od.mapMd Od.coldt Od.coldd Od.hotRt Od.hotRd
attribute [local simp] Cpu.eta Cpu.dec_row Cpu.dec_hrow Cpu.cold Cpu.hcold Cpu.mapM Cpu.mapMc Cpu.hmapM Cpu.hmapMc Cpu.view Cpu.viewc Cpu.hview Cpu.hviewc Cpu.hotR Cpu.ren Cpu.renc Cpu.low Cpu.hlow
theorem clLn : InlOk Try.prog 26 (cloneI 3) := by
  refine inl_soft Try.func26 rfl ?_
  intro args H r H' hr
  rcases cloneI_some hr with ⟨o, rows, rfl, hl, hc⟩ | ⟨id, st, k, kc, rows, rfl, hob, hle, hl, hc⟩ | ⟨rfl, rfl, rfl⟩
  · refine ⟨by simp [Try.ntmps26], wpA_sound noOrc_ok fxMix _ _ _ _ (by kernel_rfl) ?_⟩
    rcases hc with ⟨rfl, rfl, rfl⟩ | ⟨h0, rfl, rfl⟩
    · simp [Try.ntmps26, Try.results26, noOrc]
    · simp [Try.ntmps26, Try.results26, h0, hl, noOrc]
  · refine ⟨by simp [Try.ntmps26], wpA_sound noOrc_ok fxMix _ _ _ _ (by kernel_rfl) ?_⟩
    have hob' := obj_get hob
    have e1 : min k (rows.length - st) = k := by omega
    have e2 : st + k ≤ rows.length := hle
    have e3 : st ≤ rows.length := by omega
    rcases hc with ⟨rfl, rfl, rfl⟩ | ⟨h0, rfl, rfl⟩
    · simp [Try.ntmps26, Try.results26, noOrc, hob', e2, e3]
    · simp [Try.ntmps26, Try.results26, hl, noOrc, hob', e1, e2, h0]
  · refine ⟨by simp [Try.ntmps26], wpA_sound noOrc_ok fxMix _ _ _ _ (by kernel_rfl) ?_⟩
    simp [Try.ntmps26, Try.results26, noOrc]
theorem clOd : InlOk Try.prog 166 (cloneI 2) := by
  refine inl_soft Try.func166 rfl ?_
  intro args H r H' hr
  rcases cloneI_some hr with ⟨o, rows, rfl, hl, hc⟩ | ⟨id, st, k, kc, rows, rfl, hob, hle, hl, hc⟩ | ⟨rfl, rfl, rfl⟩
  · refine ⟨by simp [Try.ntmps166], wpA_sound noOrc_ok fxMix _ _ _ _ (by kernel_rfl) ?_⟩
    rcases hc with ⟨rfl, rfl, rfl⟩ | ⟨h0, rfl, rfl⟩
    · simp [Try.ntmps166, Try.results166, noOrc]
    · simp [Try.ntmps166, Try.results166, h0, hl, noOrc]
  · refine ⟨by simp [Try.ntmps166], wpA_sound noOrc_ok fxMix _ _ _ _ (by kernel_rfl) ?_⟩
    have hob' := obj_get hob
    have e1 : min k (rows.length - st) = k := by omega
    have e2 : st + k ≤ rows.length := hle
    have e3 : st ≤ rows.length := by omega
    rcases hc with ⟨rfl, rfl, rfl⟩ | ⟨h0, rfl, rfl⟩
    · simp [Try.ntmps166, Try.results166, noOrc, hob', e2, e3]
    · simp [Try.ntmps166, Try.results166, hl, noOrc, hob', e1, e2, h0]
  · refine ⟨by simp [Try.ntmps166], wpA_sound noOrc_ok fxMix _ _ _ _ (by kernel_rfl) ?_⟩
    simp [Try.ntmps166, Try.results166, noOrc]
theorem clCpu : InlOk Try.prog 165 (cloneI 2) := by
  refine inl_soft Try.func165 rfl ?_
  intro args H r H' hr
  rcases cloneI_some hr with ⟨o, rows, rfl, hl, hc⟩ | ⟨id, st, k, kc, rows, rfl, hob, hle, hl, hc⟩ | ⟨rfl, rfl, rfl⟩
  · refine ⟨by simp [Try.ntmps165], wpA_sound noOrc_ok fxMix _ _ _ _ (by kernel_rfl) ?_⟩
    rcases hc with ⟨rfl, rfl, rfl⟩ | ⟨h0, rfl, rfl⟩
    · simp [Try.ntmps165, Try.results165, noOrc]
    · simp [Try.ntmps165, Try.results165, h0, hl, noOrc]
  · refine ⟨by simp [Try.ntmps165], wpA_sound noOrc_ok fxMix _ _ _ _ (by kernel_rfl) ?_⟩
    have hob' := obj_get hob
    have e1 : min k (rows.length - st) = k := by omega
    have e2 : st + k ≤ rows.length := hle
    have e3 : st ≤ rows.length := by omega
    rcases hc with ⟨rfl, rfl, rfl⟩ | ⟨h0, rfl, rfl⟩
    · simp [Try.ntmps165, Try.results165, noOrc, hob', e2, e3]
    · simp [Try.ntmps165, Try.results165, hl, noOrc, hob', e1, e2, h0]
  · refine ⟨by simp [Try.ntmps165], wpA_sound noOrc_ok fxMix _ _ _ _ (by kernel_rfl) ?_⟩
    simp [Try.ntmps165, Try.results165, noOrc]
def cpR (md : Mode) (l : List Cpu) (k : Nat) : List Row := shR md 0 1 (l.take k) ++ (l.drop k).map Cpu.row
theorem cpR_len (md : Mode) (l : List Cpu) (k : Nat) : (cpR md l k).length = l.length := by simp [cpR, shR_len]; omega
theorem cpR_get {md : Mode} {l : List Cpu} {k : Nat} (hk : k < l.length) : (cpR md l k)[k]? = some l[k].row := by
  unfold cpR
  rw [List.getElem?_append_right (by rw [shR_len]; simp; omega), shR_len, List.length_take, Nat.min_eq_left (by omega), Nat.sub_self, List.getElem?_map, List.getElem?_drop]
  simp [hk]
theorem cpR_set {md : Mode} {l : List Cpu} {k : Nat} (hk : k < l.length) : (cpR md l k).set k (segR (md k) (1 + (shT md 0 (l.take k)).length) l[k]) = cpR md l (k + 1) := by
  have hl : (shR md 0 1 (l.take k)).length = k := by rw [shR_len]; simp; omega
  have ht : (l.take k).length = k := by simp; omega
  unfold cpR
  rw [List.set_append_right _ _ (by omega), hl, Nat.sub_self, List.drop_eq_getElem_cons hk, List.map_cons, List.set_cons_zero, List.take_succ_eq_append_getElem hk, shR_snoc, ht, Nat.zero_add]
  simp
theorem cpT_next {md : Mode} {l : List Cpu} {k : Nat} (hk : k < l.length) : shT md 0 (l.take (k + 1)) = shT md 0 (l.take k) ++ segT (md k) l[k] := by
  have ht : (l.take k).length = k := by simp; omega
  rw [List.take_succ_eq_append_getElem hk, shT_snoc, ht, Nat.zero_add]
theorem cpR_low {md : Mode} {l : List Cpu} {k n : Nat} (h : 1 + (shT md 0 (l.take k)).length ≤ n) : ∀ r ∈ cpR md l k, r.all (lowA n) = true := by
  intro r hr
  unfold cpR at hr
  rcases List.mem_append.1 hr with hr | hr
  · exact shR_low h r hr
  · obtain ⟨x, _, rfl⟩ := List.mem_map.1 hr
    simp [Cpu.row, lowA]
theorem shT_self {md : Mode} {i n : Nat} {l : List Cpu} : heapW n (shT md i l) (shT md i l) := by
  have := heapW_app (n := n) (X := shT md i l) (Y := []) (Z := []) (fun o ho => shT_low o ho) trivial
  simpa using this
theorem cpNext {md : Mode} {l : List Cpu} {k : Nat} (hk : k < l.length) {st : Nat → Unit → Env × Heap} {ρ : Env} {H : Heap}
    (hH : H = some (2, (cpR md l k).set k (segR (true, true) (1 + (shT md 0 (l.take k)).length) l[k])) :: (shT md 0 (l.take k) ++ segT (true, true) l[k]))
    (hw : Weaker 0 (st (k + 1) ()) (ρ, some (2, cpR md l (k + 1)) :: shT md 0 (l.take (k + 1)))) : NextE 0 st (fun _ _ => True) (k + 1) ρ H := by
  have hkk : k < (cpR md l k).length := by rw [cpR_len]; exact hk
  have h := segEnt (n0 := 0) (ρ := ρ) (m := md k) hH (List.getElem?_set_self hkk)
  rw [List.set_set, cpR_set hk, ← cpT_next hk] at h
  exact ⟨(), trivial, .trans (.weak hw) h⟩
theorem cpy_own (md : Mode) : InlOk Try.prog 104 (own0 (argG (cSl rCpu) fun l => finG (if (1 ≤ l.length ∧ l.length ≤ 4) ∧ ∀ c ∈ l, c.lines.length ≤ 8 ∧ c.orders.length ≤ 4 then some ((.osl 0 2 0 l.length l.length, some (2, shR md 0 1 l) :: shT md 0 l)) else none))) := by
  refine ownE_1 Try.func104 rfl ?_
  rintro l r H' hr
  by_cases hc : (1 ≤ l.length ∧ l.length ≤ 4) ∧ ∀ c ∈ l, c.lines.length ≤ 8 ∧ c.orders.length ≤ 4
  case neg => rw [if_neg hc] at hr; cases hr
  rw [if_pos hc] at hr
  simp only [Option.some.injEq, Prod.mk.injEq] at hr
  obtain ⟨rfl, rfl⟩ := hr
  refine bodyE_of ((((noOrc_ok.withIF clLn clone_loc).withIF clOd clone_loc).withIF clCpu clone_loc).withD (fun i => if i = 5 then [(9,14)] else [])) fxMix (by kernel_rfl) (by simp [Try.ntmps104]) ?_
  intro C cP cI cN cD cF cA cR cL
  have cn0 := orcI clLn (C := C) (by rw [cN]; rfl)
  have cn1 := orcI clOd (C := C) (by rw [cN]; rfl)
  have cn2 := orcI clCpu (C := C) (by rw [cN]; rfl)
  replace cI := fun g => congrFun cI g
  simp only [Orc.withP, Orc.withI, Orc.withF, Orc.withD, Orc.withA, Orc.withR, Orc.withC, noOrc] at cI
  replace cR : C.rd = fun _ => none := cR
  replace cD : C.dyn = fun i => if i = 5 then [(9,14)] else [] := cD
  replace cF := fun g => congrFun cF g
  simp only [Orc.withP, Orc.withI, Orc.withF, Orc.withD, Orc.withA, Orc.withR, Orc.withC, noOrc] at cF
  replace cA : C.alt = fun _ => [] := cA
  clear cP cN
  obtain ⟨⟨hc1, hc2⟩, hcc⟩ := hc
  have hne : ¬ l = [] := by intro h; subst h; simp at hc1
  have hl2 : l.length ≤ 4294967296 := by omega
  simp [Try.ntmps104, Try.results104, cSl, cn0, cn1, cn2, cI, cD, cR, cF, cA, rCpu, cloneI, hne, hl2]
  refine loop_forE l.length (fun k (_ : Unit) => ([(3, .osl 0 2 0 l.length l.length), (8, .v (.int .i64 l.length)), (9, .v (.int .i64 k))], some (2, cpR md l k) :: shT md 0 (l.take k))) (fun k _ => True) () (by rintro k _ h _; omega) trivial ?_ ?_ ?_
  · refine .weak ?_
    simp [cpR, shR, shT]
  · rintro k _ hk _ hw
    obtain ⟨hL, hO⟩ := hcc l[k] (List.getElem_mem hk)
    have hL2 : l[k].lines.length ≤ 4294967296 := by omega
    have hO2 : l[k].orders.length ≤ 4294967296 := by omega
    have hg := cpR_get (md := md) hk
    have hgl := cpR_len md l k
    have hg2 : (cpR md l k)[k]'(by rw [hgl]; exact hk) = l[k].row := by
      rw [List.getElem?_eq_getElem (by rw [hgl]; exact hk)] at hg
      exact Option.some.inj hg
    have hlow := cpR_low (md := md) (l := l) (k := k + 1) (Nat.le_refl _)
    have hself := shT_self (md := md) (i := 0) (n := (shT md 0 (l.take (k + 1))).length + 1) (l := l.take (k + 1))
    by_cases e1 : l[k].lines = [] <;> by_cases e2 : l[k].orders = []
    · simp [Try.ntmps104, Try.results104, cSl, cn0, cn1, cn2, cI, cD, cR, cF, cA, hk, hw, hg2, hgl, rCpu, Cpu.row, cloneI, e1, e2]
      refine cpNext (md := md) hk (by simp [segR, segT, lnA, odA, lnT, odT, e1, e2, Nat.add_comm]) ?_
      simp [hself]
      intro x hx a ha
      exact List.all_eq_true.1 (cpR_low (Nat.le_of_eq (Nat.add_comm _ _)) x hx) a ha
    · simp [Try.ntmps104, Try.results104, cSl, cn0, cn1, cn2, cI, cD, cR, cF, cA, hk, hw, hg2, hgl, rCpu, Cpu.row, cloneI, e1, e2, hO2]
      refine cpNext (md := md) hk (by simp [segR, segT, lnA, odA, lnT, odT, e1, e2, Nat.add_comm]) ?_
      simp [hself]
      intro x hx a ha
      exact List.all_eq_true.1 (cpR_low (Nat.le_of_eq (Nat.add_comm _ _)) x hx) a ha
    · simp [Try.ntmps104, Try.results104, cSl, cn0, cn1, cn2, cI, cD, cR, cF, cA, hk, hw, hg2, hgl, rCpu, Cpu.row, cloneI, e1, e2, hL2]
      refine cpNext (md := md) hk (by simp [segR, segT, lnA, odA, lnT, odT, e1, e2, Nat.add_comm]) ?_
      simp [hself]
      intro x hx a ha
      exact List.all_eq_true.1 (cpR_low (Nat.le_of_eq (Nat.add_comm _ _)) x hx) a ha
    · simp [Try.ntmps104, Try.results104, cSl, cn0, cn1, cn2, cI, cD, cR, cF, cA, hk, hw, hg2, hgl, rCpu, Cpu.row, cloneI, e1, e2, hL2, hO2]
      refine cpNext (md := md) hk (by simp [segR, segT, lnA, odA, lnT, odT, e1, e2, Nat.add_comm]) ?_
      simp [hself]
      intro x hx a ha
      exact List.all_eq_true.1 (cpR_low (Nat.le_of_eq (Nat.add_comm _ _)) x hx) a ha
  · rintro _ _
    simp [Try.ntmps104, Try.results104, cSl, cn0, cn1, cn2, cI, cD, cR, cF, cA, cpR]
    refine .weak ?_
    simp [shT_self]
    intro x hx a ha
    exact List.all_eq_true.1 (shR_low (Nat.le_of_eq (Nat.add_comm _ _)) x hx) a ha
theorem cpy_inl (md : Mode) : InlOk Try.prog 104 (frameN (own0 (argG (cSl rCpu) fun l => finG (if (1 ≤ l.length ∧ l.length ≤ 4) ∧ ∀ c ∈ l, c.lines.length ≤ 8 ∧ c.orders.length ≤ 4 then some ((.osl 0 2 0 l.length l.length, some (2, shR md 0 1 l) :: shT md 0 l)) else none)))) := frameN_ok (cpy_own md)
end
section
attribute [local simp] Ln.eta Ln.cold Ln.mapM Ln.mapMc Ln.view Ln.viewc Ln.hotR Ln.ren Ln.renc Ln.low Ln.tau Ln.tauc Ln.bare Ln.flat Ln.flat1 Ln.mapMt Ln.mapMd Ln.coldt Ln.coldd Ln.hotRt Ln.hotRd
attribute [local simp] Od.eta Od.cold Od.mapM Od.mapMc Od.view Od.viewc Od.hotR Od.ren Od.renc Od.low Od.tau Od.tauc Od.bare Od.flat Od.flat1 Od.mapMt Od.mapMd Od.coldt Od.coldd Od.hotRt Od.hotRd
attribute [local simp] Cpu.eta Cpu.dec_row Cpu.dec_hrow Cpu.cold Cpu.hcold Cpu.mapM Cpu.mapMc Cpu.hmapM Cpu.hmapMc Cpu.view Cpu.viewc Cpu.hview Cpu.hviewc Cpu.hotR Cpu.ren Cpu.renc Cpu.low Cpu.hlow
theorem lnA_tau (n : Nat) (b : Bool) (c : Nat) (L : List Ln) : tau [] n (lnA b c L) = lnA b (c + n) L := by
  unfold lnA; cases b <;> by_cases e : L = [] <;> simp [e, tau, tauI, Nat.add_comm]
theorem odA_tau (n : Nat) (b : Bool) (c : Nat) (O : List Od) : tau [] n (odA b c O) = odA b (c + n) O := by
  unfold odA; cases b <;> by_cases e : O = [] <;> simp [e, tau, tauI, Nat.add_comm]
theorem segR_tau (n : Nat) (m : Bool × Bool) (c : Nat) (x : Cpu) : (segR m c x).map (tau [] n) = segR m (c + n) x := by
  simp [segR, lnA_tau, odA_tau]; rw [Nat.add_right_comm]
theorem shR_tau (md : Mode) (n i c : Nat) (l : List Cpu) : (shR md i c l).map (fun r => r.map (tau [] n)) = shR md i (c + n) l := by
  induction l generalizing i c with
  | nil => rfl
  | cons x l ih => simp only [shR, List.map_cons, segR_tau, ih]; rw [Nat.add_right_comm]
theorem shT_tau (md : Mode) (n i : Nat) (l : List Cpu) : (shT md i l).map (tauO [] n) = shT md i l := by
  induction l generalizing i with
  | nil => rfl
  | cons x l ih =>
    simp only [shT, segT, List.map_append, ih]
    congr 1
    congr 1
    · generalize (md i).1 = b
      unfold lnT; cases b <;> by_cases e : x.lines = [] <;> simp [e, tauO]
    · generalize (md i).2 = b
      unfold odT; cases b <;> by_cases e : x.orders = [] <;> simp [e, tauO]
theorem lnA_new (b : Bool) (c : Nat) (L : List Ln) : newA (lnA b c L) = true := by
  unfold lnA; cases b <;> by_cases e : L = [] <;> simp [e, Ln.hotR]
theorem odA_new (b : Bool) (c : Nat) (O : List Od) : newA (odA b c O) = true := by
  unfold odA; cases b <;> by_cases e : O = [] <;> simp [e, Od.hotR]
theorem shR_new (md : Mode) (i c : Nat) (l : List Cpu) : ((shR md i c l).all fun row => row.all newA) = true := by
  induction l generalizing i c with
  | nil => rfl
  | cons x l ih => simp only [shR, List.all_cons, ih, segR, lnA_new, odA_new, List.all_nil, Bool.and_self]
theorem newH_app {A B : Heap} : newH (A ++ B) = (newH A && newH B) := by
  induction A with
  | nil => simp [newH]
  | cons a A ih => cases a <;> simp [newH, ih, Bool.and_assoc]
theorem shT_new (md : Mode) (i : Nat) (l : List Cpu) : newH (shT md i l) = true := by
  induction l generalizing i with
  | nil => rfl
  | cons x l ih =>
    simp only [shT, segT, newH_app, ih, Bool.and_true]
    have h1 : newH (lnT (md i).1 x.lines) = true := by
      generalize (md i).1 = b
      unfold lnT; cases b <;> by_cases e : x.lines = [] <;> simp [e, newH, Ln.row]
    have h2 : newH (odT (md i).2 x.orders) = true := by
      generalize (md i).2 = b
      unfold odT; cases b <;> by_cases e : x.orders = [] <;> simp [e, newH, Od.row]
    rw [h1, h2]; rfl
end
section
attribute [local simp] Ln.eta Ln.cold Ln.mapM Ln.mapMc Ln.view Ln.viewc Ln.hotR Ln.ren Ln.renc Ln.low Ln.tau Ln.tauc Ln.bare Ln.flat Ln.flat1 Ln.mapMt Ln.mapMd Ln.coldt Ln.coldd Ln.hotRt Ln.hotRd
attribute [local simp] Od.eta Od.cold Od.mapM Od.mapMc Od.view Od.viewc Od.hotR Od.ren Od.renc Od.low Od.tau Od.tauc Od.bare Od.flat Od.flat1 Od.mapMt Od.mapMd Od.coldt Od.coldd Od.hotRt Od.hotRd
attribute [local simp] Cpu.eta Cpu.dec_row Cpu.dec_hrow Cpu.cold Cpu.hcold Cpu.mapM Cpu.mapMc Cpu.hmapM Cpu.hmapMc Cpu.view Cpu.viewc Cpu.hview Cpu.hviewc Cpu.hotR Cpu.ren Cpu.renc Cpu.low Cpu.hlow
def mdL (j : Nat) : Mode := fun i => (i == j, false)
def flE : Except Int (List Cpu) → AVal
  | .ok l => .tup [.fsl true 2 (l.map Cpu.hrow), .v (.int .i64 0)]
  | .error e => .v (.tuple #[.slice none 0 0, .int .i64 e])
def fillL (L : List Ln) (x : Ln) : List Ln :=
  let M := L.filter (fun y => !(y.at x.space x.page))
  (if M.length = 8 then M.drop 1 else M) ++ [x]
def tlFill (l : List Cpu) (cpu s p w : Int) : Except Int (List Cpu) :=
  if tlChk l cpu = 0 then (if okSP s p = true then .ok (l.set cpu.toNat ⟨fillL (cpuAt l cpu).lines ⟨s, p, w⟩, (cpuAt l cpu).orders⟩) else .error 1) else .error (tlChk l cpu)
theorem shR_get {md : Mode} {l : List Cpu} {c k : Nat} (hk : k < l.length) : (shR md 0 c l)[k]? = some (segR (md k) (c + (shT md 0 (l.take k)).length) l[k]) := by
  have e : l = l.take k ++ [l[k]] ++ l.drop (k + 1) := by
    rw [← List.take_succ_eq_append_getElem hk, List.take_append_drop]
  have hgen : ∀ (i c : Nat) (l : List Cpu) (k : Nat) (hk : k < l.length), (shR md i c l)[k]? = some (segR (md (i + k)) (c + (shT md i (l.take k)).length) l[k]) := by
    intro i c l
    induction l generalizing i c with
    | nil => intro k hk; simp at hk
    | cons x l ih =>
      intro k hk
      cases k with
      | zero => simp [shR, shT]
      | succ k =>
        simp only [shR, List.getElem?_cons_succ, List.getElem_cons_succ, List.take_succ_cons, shT, List.length_append]
        rw [ih (i + 1) _ k (by simpa using hk)]
        rw [show i + 1 + k = i + (k + 1) by omega, Nat.add_assoc]
  simpa using hgen 0 c l k hk
theorem shT_split {md : Mode} {l : List Cpu} {k : Nat} (hk : k < l.length) : shT md 0 l = shT md 0 (l.take k) ++ (lnT (md k).1 l[k].lines ++ (odT (md k).2 l[k].orders ++ shT md (k + 1) (l.drop (k + 1)))) := by
  have hgen : ∀ (i : Nat) (l : List Cpu) (k : Nat) (hk : k < l.length), shT md i l = shT md i (l.take k) ++ (lnT (md (i + k)).1 l[k].lines ++ (odT (md (i + k)).2 l[k].orders ++ shT md (i + k + 1) (l.drop (k + 1)))) := by
    intro i l
    induction l generalizing i with
    | nil => intro k hk; simp at hk
    | cons x l ih =>
      intro k hk
      cases k with
      | zero => simp [shT, segT]
      | succ k =>
        simp only [shT, List.getElem_cons_succ, List.take_succ_cons, List.drop_succ_cons, List.append_assoc]
        rw [ih (i + 1) k (by simpa using hk), show i + 1 + k = i + (k + 1) by omega]
  simpa using hgen 0 l k hk
theorem segR_view {H : Heap} {d c : Nat} {x : Cpu} : List.map (view H (d + 1)) (segR (false, false) c x) = x.hrow := by
  simp [segR, lnA, odA, Cpu.hrow]
theorem shR_vset {md : Mode} {H : Heap} {d i c k : Nat} {l : List Cpu} {r : Row} (h : ∀ j, i + j ≠ i + k → md (i + j) = (false, false)) : (List.map (fun r => List.map (view H (d + 1)) r) (shR md i c l)).set k r = (l.map Cpu.hrow).set k r := by
  induction l generalizing i c k with
  | nil => simp [shR]
  | cons x l ih =>
    cases k with
    | zero =>
      simp only [shR, List.map_cons, List.set_cons_zero, List.cons.injEq, true_and]
      have h2 := ih (i := i + 1) (c := c + (segT (md i) x).length) (k := l.length) (fun j hj => by have := h (j + 1) (by omega); rwa [show i + (j + 1) = i + 1 + j by omega] at this)
      rwa [List.set_eq_of_length_le (by simp [shR_len]), List.set_eq_of_length_le (by simp)] at h2
    | succ k =>
      simp only [shR, List.map_cons, List.set_cons_succ]
      rw [ih (fun j hj => by have := h (j + 1) (by omega); rwa [show i + (j + 1) = i + 1 + j by omega] at this)]
      have h0 := h 0 (by omega)
      rw [Nat.add_zero] at h0
      rw [h0, segR_view]
theorem get3 {a b c x : Option (Nat × List Row)} {A B : Heap} : (a :: b :: c :: (A ++ (x :: B)))[3 + A.length]? = some x := by
  rw [Nat.add_comm]; simp
theorem set3 {a b c x y : Option (Nat × List Row)} {A B : Heap} : (a :: b :: c :: (A ++ (x :: B))).set (3 + A.length) y = a :: b :: c :: (A ++ (y :: B)) := by
  rw [Nat.add_comm]; simp
theorem flE_ok {l : List Cpu} {k : Nat} {c : Cpu} {R : Row} (hR : R = c.hrow) : AVal.tup [.fsl true 2 ((l.map Cpu.hrow).set k R), .v (.int .i64 0)] = flE (.ok (l.set k c)) ∧ hot (flE (.ok (l.set k c))) = true := by
  subst hR
  refine ⟨?_, ?_⟩
  · simp [flE]
  · simp [flE, hot, hotC]
    rw [← List.map_set]
    exact Cpu.hotR _
theorem tlFill_pure : PureOk Try.prog 36 (argM (cSl rCpu) fun l => argM (cInt .i64) fun cpu => argM (cInt .i64) fun s => argM (cInt .i64) fun p => argM (cInt .u32) fun w => finM (some (flE (tlFill l cpu s p w)))) := by
  refine pure5 Try.func36 rfl ?_
  rintro l cpu s p w r hr
  simp only [Option.some.injEq] at hr
  subst hr
  refine body_gen ((((noOrc_ok.withP tlChk_pure).withP tlRight_pure).withIF (cpy_inl (mdL cpu.toNat)) frameN_loc).withI fillDel_inl) fxMix (by kernel_rfl) (by simp [Try.ntmps36]) ?_
  intro C cP cI cN cD cF cA cR cL
  have cp0 := orcP tlChk_pure (C := C) (by rw [cP]; rfl)
  have cp1 := orcP tlRight_pure (C := C) (by rw [cP]; rfl)
  have cn0 := orcI (cpy_inl (mdL cpu.toNat)) (C := C) (by rw [cN]; rfl)
  have cn1 := orcI fillDel_inl (C := C) (by rw [cN]; rfl)
  replace cI := fun g => congrFun cI g
  simp only [Orc.withP, Orc.withI, Orc.withF, Orc.withD, Orc.withA, Orc.withR, Orc.withC, noOrc] at cI
  replace cR : C.rd = fun _ => none := cR
  replace cD : C.dyn = fun _ => [] := cD
  clear cP cN cF cA
  unfold tlFill
  by_cases h0 : tlChk l cpu = 0
  case neg => simp [Try.ntmps36, Try.results36, cSl, cp0, cp1, cn0, cn1, cI, cD, cR, rCpu, cpuDec, Cpu.row, rLn, lnDec, rOd, odDec, h0, flE]
  by_cases h1 : okSP s p = true
  case neg =>
    simp only [Bool.not_eq_true] at h1
    simp [Try.ntmps36, Try.results36, cSl, cp0, cp1, cn0, cn1, cI, cD, cR, rCpu, cpuDec, Cpu.row, rLn, lnDec, rOd, odDec, h0, h1, flE]
  obtain ⟨g0, g1, g2⟩ := tlChk_iff.1 h0
  obtain ⟨k, rfl⟩ := Int.eq_ofNat_of_zero_le g1
  have hk : k < l.length := by omega
  obtain ⟨l1, l2, l3⟩ := tlCheck_iff.1 g0
  have hcp : (∀ c ∈ l, c.lines.length ≤ 8 ∧ c.orders.length ≤ 4) = True := eq_true fun c hc => cpuE_len (l3 c hc)
  have hg := shR_get (md := mdL k) (c := 3) hk
  have hgl := shR_len (mdL k) 0 3 l
  have hsp := shT_split (md := mdL k) hk
  have hoth : ∀ j, 0 + j ≠ 0 + k → mdL k (0 + j) = (false, false) := by intro j hj; simp [mdL]; omega
  have hmd : mdL k k = (true, false) := by simp [mdL]
  rw [hmd] at hg hsp
  generalize shT (mdL k) 0 (l.take k) = A at hg hsp
  generalize shT (mdL k) (k + 1) (l.drop (k + 1)) = B at hsp
  generalize hck : l[k] = c at *
  obtain ⟨L, O⟩ := c
  have hg2 : (shR (mdL k) 0 3 l)[k]'(by rw [hgl]; exact hk) = segR (true, false) (3 + A.length) ⟨L, O⟩ := by
    rw [List.getElem?_eq_getElem (by rw [hgl]; exact hk)] at hg
    exact Option.some.inj hg
  simp [Try.ntmps36, Try.results36, cSl, cp0, cp1, cn0, cn1, cI, cD, cR, rCpu, cpuDec, Cpu.row, rLn, lnDec, rOd, odDec, h0, h1, l1, l2, hcp, shR_tau, shT_tau, shR_new, shT_new]
  by_cases e : L = []
  · subst e
    rw [hsp]
    simp [Try.ntmps36, Try.results36, cSl, cp0, cp1, cn0, cn1, cI, cD, cR, hk, hgl, hg2, segR, lnA, odA, lnT, rCapL, rI, irow, irowDec, rLn, Ln.row, lnDec, shR_vset hoth, List.take_of_length_le]
    refine flE_ok ?_
    rw [cpuAt_nat hk, hck]
    simp [fillL, Cpu.hrow, Ln.row]
  have hpos : 0 < L.length := List.length_pos_iff.2 e
  have hL8 : L.length ≤ 8 := (cpuE_len (l3 ⟨L, O⟩ (hck ▸ List.getElem_mem hk))).1
  have hL9 : L.length ≤ 1048576 := by omega
  rw [hsp]
  simp [Try.ntmps36, Try.results36, cSl, cp0, cp1, cn0, cn1, cI, cD, cR, hpos, hL9, hk, hgl, hg2, segR, lnA, odA, lnT, e, get3, set3, rCapL, rI, irow, irowDec, rLn, Ln.row, lnDec]
  have hML : (L.filter (fun x => !x.at s p)).length ≤ L.length := List.length_filter_le _ _
  generalize hM : L.filter (fun x => !x.at s p) = M at hML ⊢
  by_cases hm8 : M.length = 8
  · have hm8' : (M.length : Int) = 8 := by omega
    have hL88 : L.length = 8 := by omega
    have hv1 : ∀ x ∈ (M.map Ln.row).tail, vRow x = true := by
      intro x hx
      obtain ⟨y, _, rfl⟩ := List.mem_map.1 (List.mem_of_mem_tail hx)
      rfl
    have hv1' := eq_true hv1
    have hv2 : vRow [.v (.int .i64 s), .v (.int .i64 p), .v (.int .u32 w)] = true := rfl
    simp [Try.ntmps36, Try.results36, cSl, cp0, cp1, cn0, cn1, cI, cD, cR, hm8, hm8', hL88, get3, set3, hk, hgl, hg2, segR, lnA, odA, e, hv1', hv2, shR_vset hoth, List.take_of_length_le]
    refine flE_ok ?_
    rw [cpuAt_nat hk, hck]
    simp [fillL, Cpu.hrow, Ln.row, hM, hm8]
  have hm8' : ¬ (M.length : Int) = 8 := by omega
  by_cases hm : M.length < L.length
  · have hm1 : M.length ≤ 4294967295 := by omega
    have hm2 : M.length + 1 ≤ L.length := by omega
    simp [Try.ntmps36, Try.results36, cSl, cp0, cp1, cn0, cn1, cI, cD, cR, hm8', hm, hm1, hm2, get3, set3, hk, hgl, hg2, segR, lnA, odA, e, shR_vset hoth, List.take_of_length_le]
    refine flE_ok ?_
    rw [cpuAt_nat hk, hck]
    simp [fillL, Cpu.hrow, Ln.row, hM, List.take_append, show M.length ≠ 8 by omega]
    rw [List.take_of_length_le (by simp)]
  · have hm1 : M.length ≤ 4294967295 := by omega
    have hm2 : ¬ M.length + 1 ≤ L.length := by omega
    have hm3 : L.length - M.length = 0 := by omega
    simp [Try.ntmps36, Try.results36, cSl, cp0, cp1, cn0, cn1, cI, cD, cR, hm8', hm, hm1, hm2, hm3, get3, set3, hk, hgl, hg2, segR, lnA, odA, e, shR_vset hoth, List.take_of_length_le]
    refine flE_ok ?_
    rw [cpuAt_nat hk, hck]
    simp [fillL, Cpu.hrow, Ln.row, hM, show M.length ≠ 8 by omega]
end
end
section
theorem at_iff (x : Ln) (s p : Int) : x.at s p = true ↔ x.space = s ∧ x.page = p := by simp [Ln.at]
theorem lineGo_iff (seen L : List Ln) : lineGo seen L = true ↔ (∀ x ∈ L, okSP x.space x.page = true) ∧ L.Pairwise (fun a b => a.at b.space b.page = false) ∧ ∀ x ∈ L, ∀ y ∈ seen, y.at x.space x.page = false := by
  induction L generalizing seen with
  | nil => simp [lineGo]
  | cons a L ih =>
    simp only [lineGo, Bool.and_eq_true, ih, List.mem_cons, forall_eq_or_imp, List.pairwise_cons, List.mem_append, List.not_mem_nil, or_false, Bool.not_eq_true', List.any_eq_false]
    constructor
    · rintro ⟨⟨h1, h2⟩, h3, h4, h5⟩
      refine ⟨⟨h1, h3⟩, ⟨fun b hb => h5 b hb a (.inr rfl), h4⟩, fun y hy => by simpa using h2 y hy, fun x hx y hy => h5 x hx y (.inl hy)⟩
    · rintro ⟨⟨h1, h3⟩, ⟨h6, h4⟩, h2, h5⟩
      refine ⟨⟨h1, fun y hy => by simpa using h2 y hy⟩, h3, h4, ?_⟩
      rintro x hx y (hy | rfl)
      · exact h5 x hx y hy
      · exact h6 x hx
/-- lines in order: right ones, no page twice -/
def LnsOk (L : List Ln) : Prop := (∀ x ∈ L, okSP x.space x.page = true) ∧ L.Pairwise (fun a b => a.at b.space b.page = false)
theorem LnsOk.sub {L M : List Ln} (h : LnsOk L) (hs : M.Sublist L) : LnsOk M := ⟨fun x hx => h.1 x (hs.subset hx), h.2.sublist hs⟩
def CpuOk (c : Cpu) : Prop := c.lines.length ≤ 8 ∧ c.orders.length ≤ 4 ∧ LnsOk c.lines ∧ ∀ o ∈ c.orders, okOd o = true
theorem cpuE_iff (c : Cpu) : cpuE c = 0 ↔ CpuOk c := by
  unfold cpuE CpuOk LnsOk
  have h := lineGo_iff [] c.lines
  split
  · simp; omega
  · rename_i h0
    have h1 : c.lines.length ≤ 8 ∧ c.orders.length ≤ 4 := by omega
    simp only [h1, true_and]
    split
    · rename_i h2
      simp only [Bool.and_eq_true, List.all_eq_true] at h2
      have h3 := h.1 h2.1
      simp only [true_iff]
      exact ⟨⟨h3.1, h3.2.1⟩, h2.2⟩
    · rename_i h2
      simp only [show (3 : Int) ≠ 0 by omega, false_iff]
      rintro ⟨⟨h3, h4⟩, h5⟩
      apply h2
      simp only [Bool.and_eq_true, List.all_eq_true]
      exact ⟨h.2 ⟨h3, h4, by simp⟩, h5⟩
theorem tlOk_iff {l : List Cpu} : tlCheck l = 0 ↔ 1 ≤ l.length ∧ l.length ≤ 4 ∧ ∀ c ∈ l, CpuOk c := by
  rw [tlCheck_iff]; simp only [cpuE_iff]
theorem lkW_eq (L : List Ln) (s p : Int) : lkW L s p = (lkL L s p).getD 0 := by
  unfold lkW lkL tlFind idxP
  cases h : L.findIdx? (fun x => x.at s p) with
  | none =>
    rw [List.findIdx?_eq_none_iff] at h
    have : L.find? (fun x => x.at s p) = none := by rw [List.find?_eq_none]; intro x hx; simp [h x hx]
    simp [this]
  | some i =>
    have h2 := h
    rw [List.findIdx?_eq_some_iff_getElem] at h2
    obtain ⟨h1, h3, h4⟩ := h2
    have : L.find? (fun x => x.at s p) = some L[i] := by
      rw [List.find?_eq_some_iff_getElem]
      exact ⟨h3, i, h1, rfl, fun j hj => by simpa using h4 j hj⟩
    simp [this, h1]
    intro h; omega
theorem lkB_eq (L : List Ln) (s p : Int) : decide (0 ≤ tlFind L s p) = (lkL L s p).isSome := by
  rw [Bool.eq_iff_iff]
  simp [tlFind_iff, lkL]
theorem lk_none {L : List Ln} {s p : Int} : lkL L s p = none ↔ ∀ x ∈ L, x.at s p = false := by
  simp [lkL]
/-- what a deletion leaves is found as before -/
theorem lk_filter {L : List Ln} {q : Ln → Bool} {s p : Int} (h : ∀ x, x.at s p = true → q x = true) : lkL (L.filter q) s p = lkL L s p := by
  unfold lkL
  rw [List.find?_filter]
  congr 2
  funext x
  cases hx : x.at s p with
  | false => simp
  | true => simp [h x hx]
theorem lk_sub {L M : List Ln} {s p : Int} (hs : M.Sublist L) (h : lkL L s p = none) : lkL M s p = none := by
  rw [lk_none] at h ⊢
  exact fun x hx => h x (hs.subset hx)
theorem hit_iff (x : Ln) (o : Od) : x.hit o = true ↔ x.space = o.space ∧ (o.page < 0 ∨ x.page = o.page) := by simp [Ln.hit]
theorem forg_sub (o : Od) (L : List Ln) : (forg o L).Sublist L := List.filter_sublist
theorem forg_keep {o : Od} {L : List Ln} {s p : Int} (h : ¬ (s = o.space ∧ (o.page < 0 ∨ o.page = p))) : lkL (forg o L) s p = lkL L s p := by
  apply lk_filter
  intro x hx
  rw [at_iff] at hx
  cases hh : x.hit o with
  | false => rfl
  | true => rw [hit_iff] at hh; exfalso; apply h; rw [← hx.1, ← hx.2]; exact ⟨hh.1, hh.2.imp id Eq.symm⟩
theorem forg_gone {o : Od} {L : List Ln} {s p : Int} (h : s = o.space ∧ (o.page < 0 ∨ o.page = p)) : lkL (forg o L) s p = none := by
  rw [lk_none]
  intro x hx
  unfold forg at hx
  rw [List.mem_filter] at hx
  cases ha : x.at s p with
  | false => rfl
  | true =>
    rw [at_iff] at ha
    have : x.hit o = true := by rw [hit_iff, ha.1, ha.2]; exact ⟨h.1, h.2.imp id Eq.symm⟩
    simp [this] at hx
/-- all orders are done -/
def forgs : List Od → List Ln → List Ln
  | [], L => L
  | o :: O, L => forgs O (forg o L)
theorem forgs_sub (O : List Od) (L : List Ln) : (forgs O L).Sublist L := by
  induction O generalizing L with
  | nil => exact List.Sublist.refl _
  | cons o O ih => exact (ih _).trans (forg_sub o L)
theorem forgs_gone {O : List Od} {L : List Ln} {s p : Int} {o : Od} (ho : o ∈ O) (h : s = o.space ∧ (o.page < 0 ∨ o.page = p)) : lkL (forgs O L) s p = none := by
  induction O generalizing L with
  | nil => simp at ho
  | cons a O ih =>
    rcases List.mem_cons.1 ho with rfl | ho
    · exact lk_sub (forgs_sub O _) (forg_gone h)
    · exact ih ho
theorem forgs_keep {O : List Od} {L : List Ln} {s p : Int} (h : ∀ o ∈ O, ¬ (s = o.space ∧ (o.page < 0 ∨ o.page = p))) : lkL (forgs O L) s p = lkL L s p := by
  induction O generalizing L with
  | nil => rfl
  | cons a O ih =>
    rw [forgs, ih fun o ho => h o (List.mem_cons_of_mem _ ho)]
    exact forg_keep (h a List.mem_cons_self)
def srvd (c : Cpu) : Cpu := ⟨forgs c.orders c.lines, []⟩
theorem CpuOk.srvd {c : Cpu} (h : CpuOk c) : CpuOk (srvd c) :=
  ⟨Nat.le_trans (forgs_sub _ _).length_le h.1, by simp [Go.Proofs.Ytebpjfdbjhodiaa.srvd], h.2.2.1.sub (forgs_sub _ _), by simp [Go.Proofs.Ytebpjfdbjhodiaa.srvd]⟩
/-- a processor does its eldest order -/
def srv1 (c : Cpu) : Cpu := match c.orders with
  | [] => c
  | o :: O => ⟨forg o c.lines, O⟩
theorem CpuOk.srv1 {c : Cpu} (h : CpuOk c) : CpuOk (srv1 c) := by
  obtain ⟨L, O⟩ := c
  cases O with
  | nil => exact h
  | cons o O =>
    obtain ⟨h1, h2, h3, h4⟩ := h
    exact ⟨Nat.le_trans (forg_sub _ _).length_le h1, by simp only [Go.Proofs.Ytebpjfdbjhodiaa.srv1, List.length_cons] at h2 ⊢; omega, h3.sub (forg_sub _ _), fun x hx => h4 x (List.mem_cons_of_mem _ hx)⟩
theorem srvd_srv1 (c : Cpu) : srvd (srv1 c) = srvd c := by
  obtain ⟨L, O⟩ := c
  cases O <;> rfl
theorem okO_of {s p : Int} (h : okSP s p = true) : okOd ⟨s, p⟩ = true := by
  unfold okSP at h
  simp only [decide_eq_true_eq] at h
  unfold okOd okSP
  simp; omega
end
section
set_option maxHeartbeats 2000000
set_option maxRecDepth 100000
set_option linter.unusedSimpArgs false
set_option linter.unusedVariables false
attribute [local simp] wpA wpX RunA RunD runF foot footP footB idsA bare apart runL step1 gsel_f gsel_t gsel_s res_same res_and1 res_and2 res_and3 res_and4 res_and5 res_and6 res_false res_true res_v res_ptr res_fptr res_osl res_xsl soft aAppendZ aCap ovlI ovlJ res_fsl res_esl res_agg res_tup res_fn res_junk res_anyb aPick hk imp_left iteV dstOk guardOk astep astepE AI.ev AI.look AI.put envOf aBox cellsOf allOne allOneA oneA Value.oneCell' Value.cells newObj' aFieldAddr aLoad obj readAt thenA blockA condA retA resA tupA view hot hotC hotR depthV cAgg cInt cBool mkAgg allV aAlloc aBuild fillA writeAt aStore isAggA aField idx aIndexAddr aIndex bnd aSlice aExtract aLen aBuiltin aCall isStatic eqAgg eqTy eqC ev_add ev_sub ev_mul ev_quo ev_rem ev_and ev_or ev_xor ev_andNot ev_shl ev_shr ev_eql ev_neq ev_lss ev_leq ev_gtr ev_geq ev_agg w64 wu32 wu8 ev_not ev_neg Cod.plain RCod.plain argM finM cold coldC coldR goInt intDec boolDec aggDec Weaker heapW lowA lowC Again slDec undef aBuildSlice setRows aAppend rowsOf aMakeSlice aClear aCopy softer_self softer_nil valsOf ev_min2 ev_max2 hotR_set hotR_append take_map_set irow_cold irow_mapM irow_mapMc irow_view irow_viewc irow_hotR irow_ren irow_renc irow_low WeakT heapT thOf ren renC AgainT NextF NextT fnDec cFn rNil selfLt natLt0 natLt1 getLastMap frame0 frame1 own0 own1 argG finG tau tauI tauO tauC bareA bareC bareH irow_tau irow_tauc irow_bare irow_flat irow_bareR ownA_nil ownT_nil ownA_c ownT_c ownA_s ownT_s takeMapLen footC plainA noId noIdC cloneF frame0F frame1F insertF replaceI replaceF cellDec rCell fpDec cFp rTwo deleteF allV_oA oneA_oA res_oA RunR RunE runFT footAt hotR_cat tmodN aEqH aSliceA frameN newA newC newH fxSz3 fxAg3 fxSl3 fxAg4 fxSz53 fxBy53 fxAg53 fxZe53 fxSl53 fxAr53 fxSz55 fxAg55 fxZe55 fxFi55x0 fxFi55x1 fxPl55 fxSz57 fxAg57 fxZe57 fxAr57 fxPl57 fxSz59 fxBy59 fxAg59 fxZe59 fxFi59x0 fxFi59x1 fxFi59x2 fxFi59x3 fxFi59x4 fxFi59x5 fxPl59 fxSz60 fxAg60 fxSl60 fxAr60 fxSz62 fxBy62 fxAg62 fxZe62 fxFi62x0 fxFi62x1 fxSz63 fxAg63 fxZe63 fxSl63 fxAr63 fxSz65 fxBy65 fxAg65 fxZe65 fxFi65x0 fxFi65x1 fxFi65x2 fxPl65 fxSz66 fxAg66 fxZe66 fxSl66 fxAr66 fxSz68 fxAg68 fxZe68 fxSl68 fxAr68 fxSz69 fxBy69 fxAg69 fxZe69 fxSl69 fxAr69 fxSz70 fxAg70 fxSl70 fxAr70 fxSz72 fxBy72 fxAg72 fxZe72 fxFi72x0 fxFi72x1 fxSz74 fxAg74 fxSz76 fxBy76 fxAg76 fxZe76 fxFi76x0 fxFi76x1 fxFi76x2 fxPl76 fxZe92 fxAr92 fxPl92 fxZe93 fxAr93 fxPl93 fxZe94 fxAr94 fxPl94 fxEq59 fxEq65 fxEq76 fxNe53 fxOe53 fxXe53 fxNe60 fxOe60 fxXe60 fxLn63 fxNe63 fxOe63 fxXe63 fxNe69 fxOe69 fxXe69 fxNe70 fxOe70 fxXe70 fxFm22 fxFi22 fxFm23 fxFi23 fxFm24 fxFi24 fxFm25 fxFi25 fxFm26 fxFi26 fxFm27 fxFm28 fxFi28 fxFj28 fxFm29 fxFi29 fxFm30 fxFi30 fxFm31 fxFi31 fxFm32 fxFm33 fxFm34 fxFm36 fxFi36 fxFm38 fxFi38 fxFm39 fxFm40 fxFm93 fxFi93 fxFm94 fxFi94 fxFm95 fxFi95 fxFm96 fxFm97 fxFm98 fxFm99 fxFi99 fxFm100 fxFi100 fxFm101 fxFi101 fxFm102 fxFi102 fxFm103 fxFi103 fxFm104 fxFm105 fxFm106 fxFm107 fxFi107 fxFm108 fxFm109 fxFi109 fxFm110 fxFi110 fxFm111 fxFm112 fxFm163 fxFi163 fxFm164 fxFi164 fxFm165 fxFm166 fxFm167 fxFi167 fxFm168 fxFi168 fxFm169 fxFi169 fxFm170 fxFi170 fxFm171 fxFm199 fxFi199 fxFm200 fxFi200 fxFm201 fxFm221 fxFi221
section
attribute [local simp] Ln.eta Ln.cold Ln.mapM Ln.mapMc Ln.view Ln.viewc Ln.hotR Ln.ren Ln.renc Ln.low Ln.tau Ln.tauc Ln.bare Ln.flat Ln.flat1 Ln.mapMt Ln.mapMd Ln.coldt Ln.coldd Ln.hotRt Ln.hotRd
attribute [local simp] Od.eta Od.cold Od.mapM Od.mapMc Od.view Od.viewc Od.hotR Od.ren Od.renc Od.low Od.tau Od.tauc Od.bare Od.flat Od.flat1 Od.mapMt Od.mapMd Od.coldt Od.coldd Od.hotRt Od.hotRd
attribute [local simp] Cpu.eta Cpu.dec_row Cpu.dec_hrow Cpu.cold Cpu.hcold Cpu.mapM Cpu.mapMc Cpu.hmapM Cpu.hmapMc Cpu.view Cpu.viewc Cpu.hview Cpu.hviewc Cpu.hotR Cpu.ren Cpu.renc Cpu.low Cpu.hlow
theorem odDel : InlOk Try.prog 108 (deleteI 2) := by
  refine delete_of (z := [.v (.int .i64 0), .v (.int .i64 0)]) Try.func108 rfl (by simp [Try.ntmps108]) ?_
  intro H id i rows h1 h2 h3 h4
  refine wpA_sound noOrc_ok fxMix _ _ _ _ (by kernel_rfl) ?_
  have h1' := obj_get h1
  have g1 := (List.getElem?_eq_some_iff.1 h1').2
  have c1 : (i : Int) + 1 ≤ rows.length := by omega
  have c2 : 0 ≤ (i : Int) + 1 := by omega
  have c3 : (i : Int) ≤ i + 1 := by omega
  have c4 : i ≤ rows.length := by omega
  have c5 : i + 1 ≤ rows.length := by omega
  have c6 : i + 1 + (rows.length - (i + 1)) ≤ rows.length := by omega
  have c7 : i + (rows.length - (i + 1)) ≤ rows.length := by omega
  have c8 : i + (rows.length - (i + 1)) = rows.length - 1 := by omega
  have c9 : rows.length - 1 ≤ rows.length := by omega
  have d1 : ¬ ((i : Int) = i + 1) := by omega
  have d2 : List.take (rows.length - (i + 1)) (List.drop (i + 1) rows) = List.drop (i + 1) rows := List.take_of_length_le (by simp)
  have d3 : rows.length - (rows.length - 1) = 1 := by omega
  have d4 : (rows.length - 1) + 1 = rows.length := by omega
  have d5 : ¬ rows.length = i := by omega
  have d6 : ¬ rows.length = 0 := by omega
  have d7 : rows.length ≤ 4294967296 := by omega
  have d8 : i + (rows.length - (i + 1)) ≤ 4294967296 := by omega
  have f1 : rows.length ≤ 4294967297 := by omega
  have f2 : rows.length ≤ i + (rows.length - (i + 1) + 1) := by omega
  have d9 : ∀ X : List Row, List.take (rows.length - 1) (List.take i rows ++ (List.drop (i + 1) rows ++ X)) = List.take i rows ++ List.drop (i + 1) rows := by
    intro X
    rw [← List.append_assoc, List.take_append_of_le_length (by simp; omega), List.take_of_length_le (by simp; omega)]
  have e1 : List.drop rows.length (List.take i rows ++ (List.drop (i + 1) rows ++ List.drop (rows.length - 1) rows)) = [] := List.drop_eq_nil_of_le (by simp; omega)
  have e2 : rows.length - 1 ≤ i + (rows.length - (i + 1) + 1) := by omega
  have e3 : min i rows.length = i := by omega
  have e4 : ((rows.length - 1 : Nat) : Int) ≤ rows.length := by omega
  simp [Try.ntmps108, Try.results108, noOrc, h1', h2, h3, g1, c1, c2, c3, c4, c5, c6, c7, c8, c9, d1, d2, d3, d4, d5, d6, d7, d8, d9, e1, e2, e3, e4, f1, f2]
def mdS (j : Nat) : Mode := fun i => (i == j, i == j)
def srvE (l : List Cpu) (cpu : Int) : AVal :=
  if tlChk l cpu = 0 then .tup [.fsl true 2 ((l.set cpu.toNat (srv1 (cpuAt l cpu))).map Cpu.hrow), .v (.bool (!(cpuAt l cpu).orders.isEmpty)), .v (.int .i64 0)]
  else .v (.tuple #[.slice none 0 0, .bool false, .int .i64 (tlChk l cpu)])
theorem get1 {a x : Option (Nat × List Row)} {A B : Heap} : (a :: (A ++ (x :: B)))[1 + A.length]? = some x := by
  rw [Nat.add_comm]; simp
theorem set1 {a x y : Option (Nat × List Row)} {A B : Heap} : (a :: (A ++ (x :: B))).set (1 + A.length) y = a :: (A ++ (y :: B)) := by
  rw [Nat.add_comm]; simp
theorem get1' {a x z : Option (Nat × List Row)} {A B : Heap} : (a :: (A ++ (z :: x :: B)))[1 + A.length + 1]? = some x := by
  rw [Nat.add_comm 1]; simp
theorem set1' {a x y z : Option (Nat × List Row)} {A B : Heap} : (a :: (A ++ (z :: x :: B))).set (1 + A.length + 1) y = a :: (A ++ (z :: y :: B)) := by
  rw [Nat.add_comm 1]; simp
theorem get0' {x z : Option (Nat × List Row)} {A B : Heap} : (A ++ (z :: x :: B))[1 + A.length]? = some x := by
  rw [Nat.add_comm 1]; simp
theorem set0' {x y z : Option (Nat × List Row)} {A B : Heap} : (A ++ (z :: x :: B)).set (1 + A.length) y = A ++ (z :: y :: B) := by
  rw [Nat.add_comm 1]; simp
/-- the processors, one of them known a little less -/
theorem sof_set {l : List Cpu} {k : Nat} {c : Cpu} {a b : AVal} (ha : Sof (.fsl true 3 (c.lines.map Ln.row)) a) (hb : Sof (.fsl true 2 (c.orders.map Od.row)) b) :
    Sof (.fsl true 2 ((l.set k c).map Cpu.hrow)) (.fsl true 2 ((l.map Cpu.hrow).set k [a, b])) := by
  refine .fsl (by simp) (fun r hr => by obtain ⟨x, _, rfl⟩ := List.mem_map.1 hr; rfl) ?_
  intro i r x hr hx j u v hu hv
  by_cases e : i = k
  · subst e
    have hi : i < l.length := by have := (List.getElem?_eq_some_iff.1 hx).1; simpa using this
    rw [List.getElem?_map, List.getElem?_set_self hi] at hr
    rw [List.getElem?_set_self (by simpa using hi)] at hx
    simp only [Option.map_some, Option.some.injEq] at hr hx
    subst hr; subst hx
    match j with
    | 0 => simp [Cpu.hrow] at hu hv; subst hu; subst hv; exact ha
    | 1 => simp [Cpu.hrow] at hu hv; subst hu; subst hv; exact hb
    | j + 2 => simp at hv
  · rw [List.getElem?_map, List.getElem?_set_ne (fun h => e h.symm)] at hr
    rw [List.getElem?_set_ne (fun h => e h.symm), List.getElem?_map] at hx
    rw [hr] at hx
    cases hx
    rw [hu] at hv
    cases hv
    exact .refl _
theorem vset_self {md : Mode} {H : Heap} {d c k : Nat} {l : List Cpu} {r : Row} (h : ∀ j, 0 + j ≠ 0 + k → md (0 + j) = (false, false)) (hk : k < (shR md 0 c l).length) (hv : List.map (view H (d + 1)) (shR md 0 c l)[k] = r) :
    List.map (fun r => List.map (view H (d + 1)) r) (shR md 0 c l) = (l.map Cpu.hrow).set k r := by
  subst hv
  rw [← shR_vset h (H := H) (d := d) (c := c), ← List.getElem_map (f := fun r => List.map (view H (d + 1)) r) (h := by simpa using hk), List.set_getElem_self]
theorem shows_cpus {H : Heap} {rows : List Row} {l : List Cpu} {k n : Nat} {c : Cpu} {a b : AVal} (hob : obj H 0 = some (2, rows)) (hlen : rows.length = n) (hv : rows.map (fun r => List.map (view H 2) r) = (l.map Cpu.hrow).set k [a, b])
    (ha : Sof (.fsl true 3 (c.lines.map Ln.row)) a) (hb : Sof (.fsl true 2 (c.orders.map Od.row)) b) (ha2 : hot a = true) (hb2 : hot b = true) : ShowsA H 3 (.fsl true 2 ((l.map Cpu.hrow).set k c.hrow)) (.osl 0 2 0 n n) := by
  subst hlen
  have e : view H 3 (.osl 0 2 0 rows.length rows.length) = .fsl true 2 ((l.map Cpu.hrow).set k [a, b]) := by
    have ht : (rows.drop 0).take rows.length = rows := List.take_of_length_le (by simp)
    simp only [view, hob, Nat.zero_add, Nat.le_refl, and_self, if_true, ht]
    rw [← hv]
  refine ⟨?_, ?_⟩
  · rw [e, ← List.map_set]
    exact sof_set ha hb
  · rw [e]
    simp only [hot, Bool.true_or, Bool.true_and]
    exact hotR_set (Cpu.hotR l) (by simp [hotC, ha2, hb2])
theorem tlServe_pure : PureOk Try.prog 37 (argM (cSl rCpu) fun l => argM (cInt .i64) fun cpu => finM (some (srvE l cpu))) := by
  refine pureS2 Try.func37 rfl ?_
  rintro l cpu r' hr
  simp only [Option.some.injEq] at hr
  subst hr
  refine bodyS_of ((((noOrc_ok.withP tlChk_pure).withIF (cpy_inl (mdS cpu.toNat)) frameN_loc).withI forget_inl).withIF odDel delete_loc) fxMix (by kernel_rfl) (by simp [Try.ntmps37]) ?_
  intro C cP cI cN cD cF cA cR cL
  have cp0 := orcP tlChk_pure (C := C) (by rw [cP]; rfl)
  have cn0 := orcI (cpy_inl (mdS cpu.toNat)) (C := C) (by rw [cN]; rfl)
  have cn1 := orcI forget_inl (C := C) (by rw [cN]; rfl)
  have cn2 := orcI odDel (C := C) (by rw [cN]; rfl)
  replace cI := fun g => congrFun cI g
  simp only [Orc.withP, Orc.withI, Orc.withF, Orc.withD, Orc.withA, Orc.withR, Orc.withC, noOrc] at cI
  replace cR : C.rd = fun _ => none := cR
  replace cD : C.dyn = fun _ => [] := cD
  clear cP cN cF cA
  unfold srvE
  by_cases h0 : tlChk l cpu = 0
  case neg =>
    simp [Try.ntmps37, Try.results37, cSl, cp0, cn0, cn1, cn2, cI, cD, cR, rCpu, cpuDec, Cpu.row, rLn, lnDec, rOd, odDec, h0]
    exact showsV _
  obtain ⟨g0, g1, g2⟩ := tlChk_iff.1 h0
  obtain ⟨k, rfl⟩ := Int.eq_ofNat_of_zero_le g1
  have hk : k < l.length := by omega
  obtain ⟨l1, l2, l3⟩ := tlCheck_iff.1 g0
  have hcp : (∀ c ∈ l, c.lines.length ≤ 8 ∧ c.orders.length ≤ 4) = True := eq_true fun c hc => cpuE_len (l3 c hc)
  have hg := shR_get (md := mdS k) (c := 1) hk
  have hgl := shR_len (mdS k) 0 1 l
  have hsp := shT_split (md := mdS k) hk
  have hoth : ∀ j, 0 + j ≠ 0 + k → mdS k (0 + j) = (false, false) := by intro j hj; simp [mdS]; omega
  have hmd : mdS k k = (true, true) := by simp [mdS]
  rw [hmd] at hg hsp
  rw [cpuAt_nat hk]
  generalize shT (mdS k) 0 (l.take k) = A at hg hsp
  generalize shT (mdS k) (k + 1) (l.drop (k + 1)) = B at hsp
  generalize hck : l[k] = c at *
  obtain ⟨L, O⟩ := c
  have hg2 : (shR (mdS k) 0 1 l)[k]'(by rw [hgl]; exact hk) = segR (true, true) (1 + A.length) ⟨L, O⟩ := by
    rw [List.getElem?_eq_getElem (by rw [hgl]; exact hk)] at hg
    exact Option.some.inj hg
  have hL8 : L.length ≤ 8 := (cpuE_len (l3 ⟨L, O⟩ (hck ▸ List.getElem_mem hk))).1
  have hO4 : O.length ≤ 4 := (cpuE_len (l3 ⟨L, O⟩ (hck ▸ List.getElem_mem hk))).2
  have hL9 : L.length ≤ 1048576 := by omega
  simp [Try.ntmps37, Try.results37, cSl, cp0, cn0, cn1, cn2, cI, cD, cR, rCpu, cpuDec, Cpu.row, rLn, lnDec, rOd, odDec, h0, l1, l2, hcp, shR_tau, shT_tau, shR_new, shT_new]
  rw [hsp]
  have hpos : L ≠ [] → 0 < L.length := List.length_pos_iff.2
  by_cases e : L = []
  · subst e
    cases O with
    | nil =>
      simp [Try.ntmps37, Try.results37, cSl, cp0, cn0, cn1, cn2, cI, cD, cR, hk, hgl, hg2, segR, lnA, odA, lnT, odT]
      refine showsT3 (shows_cpus (a := .esl) (b := .esl) rfl hgl (vset_self hoth (by rw [hgl]; exact hk) ?_) ?_ ?_ ?_ ?_) (showsV _) (showsV _)
      · simp [hg2, segR, lnA, odA]
      · exact .esl
      · exact .esl
      · rfl
      · rfl
    | cons o O =>
      have hO5 : O.length ≤ 1048575 := by simp at hO4; omega
      simp [Try.ntmps37, Try.results37, cSl, cp0, cn0, cn1, cn2, cI, cD, cR, hk, hgl, hg2, segR, lnA, odA, lnT, odT, deleteI, hO5, get1, set1, rOd, odDec, Od.row, rLn, lnDec, Ln.row]
      refine showsT3 (shows_cpus (a := .esl) (b := .fsl true 2 (O.map Od.row)) rfl (by rw [List.length_set]; exact hgl) ?_ ?_ ?_ ?_ ?_) (showsV _) (showsV _)
      · simp [shR_vset hoth, get1]
      · exact .esl
      · exact .refl _
      · rfl
      · simp [hot]
  · have hps : 0 < L.length := hpos e
    cases O with
    | nil =>
      simp [Try.ntmps37, Try.results37, cSl, cp0, cn0, cn1, cn2, cI, cD, cR, hk, hgl, hg2, segR, lnA, odA, lnT, odT, e]
      refine showsT3 (shows_cpus (a := .fsl true 3 (L.map Ln.row)) (b := .esl) rfl hgl (vset_self hoth (by rw [hgl]; exact hk) ?_) ?_ ?_ ?_ ?_) (showsV _) (showsV _)
      · simp [hg2, segR, lnA, odA, e, get1]
      · exact .refl _
      · exact .esl
      · simp [hot]
      · rfl
    | cons o O =>
      have hO5 : O.length ≤ 1048575 := by simp at hO4; omega
      simp [Try.ntmps37, Try.results37, cSl, cp0, cn0, cn1, cn2, cI, cD, cR, hk, hgl, hg2, segR, lnA, odA, lnT, odT, e, hps, deleteI, zLn, hO5, hL9, get1, set1, get1', set1', get0', set0', rOd, odDec, Od.row, rLn, lnDec, Ln.row]
      refine showsT3 (shows_cpus (a := .fsl true 3 ((forg o L).map Ln.row)) (b := .fsl true 2 (O.map Od.row)) rfl (by rw [List.length_set]; exact hgl) ?_ ?_ ?_ ?_ ?_) (showsV _) (showsV _)
      · simp [shR_vset hoth, get1, get1', get0']
      · exact .refl _
      · exact .refl _
      · simp [hot]
      · simp [hot]
end
section
attribute [local simp] Ln.eta Ln.cold Ln.mapM Ln.mapMc Ln.view Ln.viewc Ln.hotR Ln.ren Ln.renc Ln.low Ln.tau Ln.tauc Ln.bare Ln.flat Ln.flat1 Ln.mapMt Ln.mapMd Ln.coldt Ln.coldd Ln.hotRt Ln.hotRd
attribute [local simp] Od.eta Od.cold Od.mapM Od.mapMc Od.view Od.viewc Od.hotR Od.ren Od.renc Od.low Od.tau Od.tauc Od.bare Od.flat Od.flat1 Od.mapMt Od.mapMd Od.coldt Od.coldd Od.hotRt Od.hotRd
attribute [local simp] Cpu.eta Cpu.dec_row Cpu.dec_hrow Cpu.cold Cpu.hcold Cpu.mapM Cpu.mapMc Cpu.hmapM Cpu.hmapMc Cpu.view Cpu.viewc Cpu.hview Cpu.hviewc Cpu.hotR Cpu.ren Cpu.renc Cpu.low Cpu.hlow
def mdT (b : Nat) : Mode := fun i => (i == b, i != b)
def shotC (b i : Nat) (o : Od) (c : Cpu) : Cpu := if i = b then ⟨forg o c.lines, c.orders⟩ else ⟨c.lines, c.orders ++ [o]⟩
def shots (b : Nat) (o : Od) : Nat → List Cpu → List Cpu
  | _, [] => []
  | i, c :: r => shotC b i o c :: shots b o (i + 1) r
def wtB (b : Nat) : Nat → List Cpu → Bool
  | _, [] => false
  | i, c :: r => (i != b && decide (c.orders.length = 4)) || wtB b (i + 1) r
def tlShoot (l : List Cpu) (b : Int) (o : Od) : Except Int (List Cpu) :=
  if tlChk l b = 0 then (if okOd o = true then (if wtB b.toNat 0 l = true then .error 9 else .ok (shots b.toNat o 0 l)) else .error 1) else .error (tlChk l b)
theorem shots_len (b : Nat) (o : Od) (i : Nat) (l : List Cpu) : (shots b o i l).length = l.length := by
  induction l generalizing i with
  | nil => rfl
  | cons c r ih => simp [shots, ih]
theorem shots_snoc (b : Nat) (o : Od) (i : Nat) (l : List Cpu) (c : Cpu) : shots b o i (l ++ [c]) = shots b o i l ++ [shotC b (i + l.length) o c] := by
  induction l generalizing i with
  | nil => simp [shots]
  | cons a l ih =>
    simp only [List.cons_append, shots, ih, List.length_cons]
    rw [show i + 1 + l.length = i + (l.length + 1) by omega]
def stN (b : Nat) (l : List Cpu) (k : Nat) : Nat := (shT (mdT b) 0 (l.take k)).length
def stR (b : Nat) (o : Od) (l : List Cpu) (k : Nat) : List Row := (shots b o 0 (l.take k)).map Cpu.hrow ++ shR (mdT b) k (2 + stN b l k) (l.drop k)
def stH (b : Nat) (l : List Cpu) (k : Nat) : Heap := List.replicate (stN b l k) none ++ shT (mdT b) k (l.drop k)
theorem stR_len (b : Nat) (o : Od) (l : List Cpu) (k : Nat) : (stR b o l k).length = l.length := by simp [stR, shots_len, shR_len]; omega
theorem stN_next {b : Nat} {l : List Cpu} {k : Nat} (hk : k < l.length) : stN b l (k + 1) = stN b l k + (segT (mdT b k) l[k]).length := by
  unfold stN
  rw [cpT_next hk, List.length_append]
theorem stR_drop {b : Nat} {o : Od} {l : List Cpu} {k : Nat} (hk : k < l.length) : stR b o l k = (shots b o 0 (l.take k)).map Cpu.hrow ++ (segR (mdT b k) (2 + stN b l k) l[k] :: shR (mdT b) (k + 1) (2 + stN b l (k + 1)) (l.drop (k + 1))) := by
  unfold stR
  rw [List.drop_eq_getElem_cons hk, shR, stN_next hk, Nat.add_assoc]
theorem stR_get {b : Nat} {o : Od} {l : List Cpu} {k : Nat} (hk : k < l.length) : (stR b o l k)[k]? = some (segR (mdT b k) (2 + stN b l k) l[k]) := by
  have hl : ((shots b o 0 (l.take k)).map Cpu.hrow).length = k := by simp [shots_len]; omega
  rw [stR_drop hk, List.getElem?_append_right (by omega), hl, Nat.sub_self, List.getElem?_cons_zero]
theorem stR_set {b : Nat} {o : Od} {l : List Cpu} {k : Nat} (hk : k < l.length) : (stR b o l k).set k (shotC b k o l[k]).hrow = stR b o l (k + 1) := by
  have hl : ((shots b o 0 (l.take k)).map Cpu.hrow).length = k := by simp [shots_len]; omega
  have ht : (l.take k).length = k := by simp; omega
  rw [stR_drop hk, List.set_append_right _ _ (by omega), hl, Nat.sub_self, List.set_cons_zero]
  unfold stR
  rw [List.take_succ_eq_append_getElem hk, shots_snoc, ht, Nat.zero_add]
  simp
theorem stH_drop {b : Nat} {l : List Cpu} {k : Nat} (hk : k < l.length) : stH b l k = List.replicate (stN b l k) none ++ (lnT (mdT b k).1 l[k].lines ++ (odT (mdT b k).2 l[k].orders ++ shT (mdT b) (k + 1) (l.drop (k + 1)))) := by
  unfold stH
  rw [List.drop_eq_getElem_cons hk, shT, segT, List.append_assoc]
theorem lnT_nones (L : List Ln) : lnT false L = List.replicate (lnT false L).length none := by unfold lnT; split <;> rfl
theorem odT_nones (O : List Od) : odT false O = List.replicate (odT false O).length none := by unfold odT; split <;> rfl
theorem stH_next {b : Nat} {l : List Cpu} {k : Nat} (hk : k < l.length) : stH b l (k + 1) = List.replicate (stN b l k) none ++ (lnT false l[k].lines ++ (odT false l[k].orders ++ shT (mdT b) (k + 1) (l.drop (k + 1)))) := by
  have h1 : ∀ X : Heap, lnT false l[k].lines ++ (odT false l[k].orders ++ X) = List.replicate ((lnT false l[k].lines).length + (odT false l[k].orders).length) none ++ X := by
    intro X
    rw [← List.replicate_append_replicate, ← lnT_nones, ← odT_nones, List.append_assoc]
  unfold stH
  rw [h1, stN_next hk, segT, List.length_append, lnT_len (mdT b k).1, odT_len (mdT b k).2, lnT_len false, odT_len false, ← List.replicate_append_replicate, List.append_assoc]
theorem stR_low {b : Nat} {o : Od} {l : List Cpu} {k n : Nat} (h : 2 + (stH b l k).length ≤ n) : ∀ r ∈ stR b o l k, r.all (lowA n) = true := by
  intro r hr
  unfold stR at hr
  rcases List.mem_append.1 hr with hr | hr
  · obtain ⟨x, _, rfl⟩ := List.mem_map.1 hr
    simp
  · exact shR_low (by simp only [stH, List.length_append, List.length_replicate] at h; omega) r hr
theorem stH_self {b n : Nat} {l : List Cpu} {k : Nat} {Z : Heap} : heapW n (stH b l k) (stH b l k ++ Z) := by
  have := heapW_app (n := n) (X := stH b l k) (Y := []) (Z := Z) (fun o ho => by
    unfold stH at ho
    rcases List.mem_append.1 ho with ho | ho
    · have := List.eq_of_mem_replicate ho
      cases this
    · exact shT_low o ho) trivial
  simpa using this
theorem get2 {a b x : Option (Nat × List Row)} {B : Heap} {n : Nat} : (a :: b :: (List.replicate n none ++ (x :: B)))[2 + n]? = some x := by
  rw [Nat.add_comm]; simp
theorem set2 {a b x y : Option (Nat × List Row)} {B : Heap} {n : Nat} : (a :: b :: (List.replicate n none ++ (x :: B))).set (2 + n) y = a :: b :: (List.replicate n none ++ (y :: B)) := by
  rw [Nat.add_comm]; simp
theorem get2X {a b x : Option (Nat × List Row)} {X B : Heap} {n : Nat} : (a :: b :: (List.replicate n none ++ (X ++ (x :: B))))[2 + n + X.length]? = some x := by
  rw [show 2 + n + X.length = (n + X.length) + 1 + 1 by omega, List.getElem?_cons_succ, List.getElem?_cons_succ, List.getElem?_append_right (by simp), List.length_replicate, Nat.add_sub_cancel_left, List.getElem?_append_right (Nat.le_refl _), Nat.sub_self, List.getElem?_cons_zero]
theorem set2X {a b x y : Option (Nat × List Row)} {X B : Heap} {n : Nat} : (a :: b :: (List.replicate n none ++ (X ++ (x :: B)))).set (2 + n + X.length) y = a :: b :: (List.replicate n none ++ (X ++ (y :: B))) := by
  rw [show 2 + n + X.length = (n + X.length) + 1 + 1 by omega, List.set_cons_succ, List.set_cons_succ, List.set_append_right _ _ (by simp), List.length_replicate, Nat.add_sub_cancel_left, List.set_append_right _ _ (Nat.le_refl _), Nat.sub_self, List.set_cons_zero]
theorem ent_cell0 {ρ : Env} {x0 : Option (Nat × List Row)} {R : List Row} {k : Nat} {z : AVal} {S : Heap} (hk : k < R.length) : Ent 0 (ρ, x0 :: some (2, R.set k [.fsl true 3 [], z]) :: S) (ρ, x0 :: some (2, R.set k [.esl, z]) :: S) := by
  have h := Ent.cell (n0 := 0) (ρ := ρ) (H := x0 :: some (2, R.set k [.esl, z]) :: S) (M := 1) (i := k) (j := 0) (szM := 2) (a := .esl) (r := .fsl true 3 []) rfl (List.getElem?_set_self hk) rfl .esl
  simpa using h
theorem ent_frz0 {ρ : Env} {x0 : Option (Nat × List Row)} {R rows : List Row} {k n m kc : Nat} {z : AVal} {H H1 A T : Heap} (hn : n = 2 + A.length) (hk : k < R.length) (hm : m ≤ rows.length) (hlow : ∀ r ∈ rows, r.all (lowA 0) = true)
    (hH : H = x0 :: some (2, R.set k [.osl n 3 0 m kc, z]) :: (A ++ some (3, rows) :: T)) (hH1 : H1 = x0 :: some (2, R.set k [.fsl true 3 (rows.take m), z]) :: (A ++ none :: T)) : Ent 0 (ρ, H1) (ρ, H) := by
  subst hH; subst hH1; subst hn
  have h := Ent.frzT (n0 := 0) (ρ := ρ) (H := x0 :: some (2, R.set k [.osl (2 + A.length) 3 0 m kc, z]) :: (A ++ some (3, rows) :: T)) (n := 2 + A.length) (M := 1) (i := k) (j := 0) (szM := 2) (len := m) (kc := kc) (sz := 3) (rows := rows) (by rw [Nat.add_comm]; simp [obj]) hm hlow rfl (by omega) (List.getElem?_set_self hk) rfl
  rw [Nat.add_comm 2] at h ⊢
  simpa using h
theorem ent_frz1 {ρ : Env} {x0 : Option (Nat × List Row)} {R rows : List Row} {k n m kc : Nat} {z : AVal} {H H1 A T : Heap} (hn : n = 2 + A.length) (hk : k < R.length) (hm : m ≤ rows.length) (hlow : ∀ r ∈ rows, r.all (lowA 0) = true)
    (hH : H = x0 :: some (2, R.set k [z, .osl n 2 0 m kc]) :: (A ++ some (2, rows) :: T)) (hH1 : H1 = x0 :: some (2, R.set k [z, .fsl true 2 (rows.take m)]) :: (A ++ none :: T)) : Ent 0 (ρ, H1) (ρ, H) := by
  subst hH; subst hH1; subst hn
  have h := Ent.frzT (n0 := 0) (ρ := ρ) (H := x0 :: some (2, R.set k [z, .osl (2 + A.length) 2 0 m kc]) :: (A ++ some (2, rows) :: T)) (n := 2 + A.length) (M := 1) (i := k) (j := 1) (szM := 2) (len := m) (kc := kc) (sz := 2) (rows := rows) (by rw [Nat.add_comm]; simp [obj]) hm hlow rfl (by omega) (List.getElem?_set_self hk) rfl
  rw [Nat.add_comm 2] at h ⊢
  simpa using h
theorem shNext {st : Nat → Unit → Env × Heap} {inv : Nat → Unit → Prop} {k : Nat} {ρ : Env} {H : Heap} (H1 : Heap) (hi : inv (k + 1) ()) (hE : Ent 0 (ρ, H1) (ρ, H)) (hw : Weaker 0 (st (k + 1) ()) (ρ, H1)) : NextE 0 st inv (k + 1) ρ H := ⟨(), hi, .trans (.weak hw) hE⟩
theorem tlShoot_pure : PureOk Try.prog 35 (argM (cSl rCpu) fun l => argM (cInt .i64) fun b => argM (cAgg rOd) fun o => finM (some (flE (tlShoot l b o)))) := by
  refine pure3 Try.func35 rfl ?_
  rintro l b o r hr
  simp only [Option.some.injEq] at hr
  subst hr
  refine body_gen (((((noOrc_ok.withP tlChk_pure).withP tlRight_pure).withIF (cpy_inl (mdT b.toNat)) frameN_loc).withI forget_inl).withD (fun i => if i = 10 then [(6,8)] else [])) fxMix (by kernel_rfl) (by simp [Try.ntmps35]) ?_
  intro C cP cI cN cD cF cA cR cL
  have cp0 := orcP tlChk_pure (C := C) (by rw [cP]; rfl)
  have cp1 := orcP tlRight_pure (C := C) (by rw [cP]; rfl)
  have cn0 := orcI (cpy_inl (mdT b.toNat)) (C := C) (by rw [cN]; rfl)
  have cn1 := orcI forget_inl (C := C) (by rw [cN]; rfl)
  replace cI := fun g => congrFun cI g
  simp only [Orc.withP, Orc.withI, Orc.withF, Orc.withD, Orc.withA, Orc.withR, Orc.withC, noOrc] at cI
  replace cR : C.rd = fun _ => none := cR
  replace cD : C.dyn = fun i => if i = 10 then [(6,8)] else [] := cD
  replace cF := fun g => congrFun cF g
  simp only [Orc.withP, Orc.withI, Orc.withF, Orc.withD, Orc.withA, Orc.withR, Orc.withC, noOrc] at cF
  replace cA : C.alt = fun _ => [] := cA
  clear cP cN
  unfold tlShoot
  by_cases h0 : tlChk l b = 0
  case neg => simp [Try.ntmps35, Try.results35, cSl, cp0, cp1, cn0, cn1, cI, cD, cR, cF, cA, rCpu, cpuDec, Cpu.row, rLn, lnDec, rOd, odDec, Od.row, h0, flE]
  have hmx : (if 0 < o.page then o.page else 0) = max o.page 0 := by omega
  have hmx2 : (if o.page > 0 then o.page else 0) = max o.page 0 := by omega
  have hmx3 : (if o.page < 0 then 0 else o.page) = max o.page 0 := by omega
  have hmx4 : (if 0 > o.page then 0 else o.page) = max o.page 0 := by omega
  by_cases h1 : okOd o = true
  case neg =>
    by_cases c1 : okSP o.space (max o.page 0) = true
    · have c2 : o.page < -1 := by
        unfold okOd at h1
        rw [c1] at h1
        simp at h1
        omega
      simp [Try.ntmps35, Try.results35, cSl, cp0, cp1, cn0, cn1, cI, cD, cR, cF, cA, rCpu, cpuDec, Cpu.row, rLn, lnDec, rOd, odDec, Od.row, h0, h1, c1, c2, hmx, hmx2, hmx3, hmx4, flE]
      done
    · simp only [Bool.not_eq_true] at c1
      simp [Try.ntmps35, Try.results35, cSl, cp0, cp1, cn0, cn1, cI, cD, cR, cF, cA, rCpu, cpuDec, Cpu.row, rLn, lnDec, rOd, odDec, Od.row, h0, h1, c1, hmx, hmx2, hmx3, hmx4, flE]
  have c1 : okSP o.space (max o.page 0) = true := by unfold okOd at h1; simp at h1; exact h1.1
  have c2 : ¬ o.page < -1 := by unfold okOd at h1; simp at h1; omega
  obtain ⟨g0, g1, g2⟩ := tlChk_iff.1 h0
  obtain ⟨b, rfl⟩ := Int.eq_ofNat_of_zero_le g1
  have hbl : b < l.length := by omega
  obtain ⟨l1, l2, l3⟩ := tlCheck_iff.1 g0
  have hcp : (∀ c ∈ l, c.lines.length ≤ 8 ∧ c.orders.length ≤ 4) = True := eq_true fun c hc => cpuE_len (l3 c hc)
  simp [Try.ntmps35, Try.results35, cSl, cp0, cp1, cn0, cn1, cI, cD, cR, cF, cA, rCpu, cpuDec, Cpu.row, rLn, lnDec, rOd, odDec, Od.row, h0, h1, c1, c2, hmx, hmx2, hmx3, hmx4, l1, l2, hcp, shR_tau, shT_tau, shR_new, shT_new]
  refine loop_forE l.length (fun k (_ : Unit) => ([(0, .osl 1 2 0 l.length l.length), (1, .v (.int .i64 b)), (5, .ptr 0 2 0 0), (33, .v (.int .i64 l.length)), (34, .v (.int .i64 k))], some (2, [[.v (.int .i64 o.space), .v (.int .i64 o.page)]]) :: some (2, stR b o l k) :: stH b l k)) (fun k _ => wtB b k (l.drop k) = wtB b 0 l) () (by rintro k _ h _; omega) (by simp) ?_ ?_ ?_
  · refine .weak ?_
    simp [stR, stH, stN, shR, shT, shots, shT_self]
    intro x hx a ha
    exact List.all_eq_true.1 (shR_low (Nat.le_of_eq (by omega)) x hx) a ha
  · rintro k _ hk hall hw
    have hrg := stR_get (b := b) (o := o) hk
    have hrl := stR_len b o l k
    have hg2 : (stR b o l k)[k]'(by rw [hrl]; exact hk) = segR (mdT b k) (2 + stN b l k) l[k] := by
      rw [List.getElem?_eq_getElem (by rw [hrl]; exact hk)] at hrg
      exact Option.some.inj hrg
    rw [List.drop_eq_getElem_cons hk, wtB] at hall
    have hsd := stH_drop (b := b) hk
    have hsn := stH_next (b := b) hk
    have hrs := stR_set (b := b) (o := o) hk
    have hself := fun Z => stH_self (b := b) (n := (stH b l (k + 1)).length + 2) (l := l) (k := k + 1) (Z := Z)
    have hlow := stR_low (b := b) (o := o) (l := l) (k := k + 1) (n := (stH b l (k + 1)).length + 2) (by omega)
    obtain ⟨hL8, hO4⟩ := cpuE_len (l3 l[k] (List.getElem_mem hk))
    generalize hck : l[k] = c at *
    obtain ⟨L, O⟩ := c
    have hL9 : L.length ≤ 1048576 := by simp at hL8; omega
    have hps : L ≠ [] → 0 < L.length := List.length_pos_iff.2
    by_cases e : k = b
    · subst e
      have hmd : mdT k k = (true, false) := by simp [mdT]
      rw [hmd] at hg2 hsd
      by_cases eL : L = []
      · subst eL
        simp [Try.ntmps35, Try.results35, cSl, cp0, cp1, cn0, cn1, cI, cD, cR, cF, cA, hk, hw, hsd, hrl, hg2, segR, lnA, odA, lnT, zLn, rOd, odDec, Od.row, rLn, lnDec, Ln.row]
        refine shNext (some (2, [[.v (.int .i64 o.space), .v (.int .i64 o.page)]]) :: some (2, stR k o l (k + 1)) :: (stH k l (k + 1) ++ [])) (by simpa using hall) ?_ ?_
        · rw [← hrs, hsn]
          simp only [shotC, if_true, Cpu.hrow, forg, List.filter_nil, List.map_nil, lnT, List.nil_append, List.append_nil]
          exact ent_cell0 (by rw [hrl]; exact hk)
        · have hs0 := hself []
          rw [List.append_nil] at hs0
          simp [hs0]
          intro x hx a ha
          exact List.all_eq_true.1 (hlow x hx) a ha
      · have hp := hps eL
        simp [Try.ntmps35, Try.results35, cSl, cp0, cp1, cn0, cn1, cI, cD, cR, cF, cA, hk, hw, hsd, hrl, hg2, segR, lnA, odA, lnT, eL, hp, hL9, get2, set2, zLn, rOd, odDec, Od.row, rLn, lnDec, Ln.row]
        refine shNext (some (2, [[.v (.int .i64 o.space), .v (.int .i64 o.page)]]) :: some (2, stR k o l (k + 1)) :: (stH k l (k + 1) ++ [])) (by simpa using hall) ?_ ?_
        · rw [← hrs, hsn]
          refine ent_frz0 (A := List.replicate (stN k l k) none) (T := odT false O ++ shT (mdT k) (k + 1) (List.drop (k + 1) l)) (by simp) (by rw [hrl]; exact hk) (by simp) ?_ rfl ?_
          · intro r hr
            rcases List.mem_append.1 hr with hr | hr
            · obtain ⟨x, _, rfl⟩ := List.mem_map.1 hr
              exact Ln.low 0 x
            · rw [List.eq_of_mem_replicate hr]; rfl
          · simp [shotC, Cpu.hrow, lnT, eL]
        · have hs0 := hself []
          rw [List.append_nil] at hs0
          simp [hs0]
          intro x hx a ha
          exact List.all_eq_true.1 (hlow x hx) a ha
    · have hmd : mdT b k = (false, true) := by simp [mdT, e]
      have ei : ¬ (k : Int) = b := by omega
      rw [hmd] at hg2 hsd
      by_cases e4 : O.length = 4
      · have e4' : (O.length : Int) = 4 := by omega
        have hE : wtB b 0 l = true := by rw [← hall]; simp [e, e4]
        rw [hE]
        have eO : O ≠ [] := by intro h; subst h; simp at e4
        simp [Try.ntmps35, Try.results35, cSl, cp0, cp1, cn0, cn1, cI, cD, cR, cF, cA, hk, hw, hsd, hrl, hg2, segR, lnA, odA, odT, eO, e, ei, e4, e4', get2, set2, rOd, odDec, Od.row, rLn, lnDec, Ln.row, flE]
        done
      · have e4' : ¬ (O.length : Int) = 4 := by omega
        have hE : wtB b (k + 1) (l.drop (k + 1)) = wtB b 0 l := by rw [← hall]; simp [e4]
        by_cases eO : O = []
        · subst eO
          simp [Try.ntmps35, Try.results35, cSl, cp0, cp1, cn0, cn1, cI, cD, cR, cF, cA, hk, hw, hsd, hrl, hg2, segR, lnA, odA, odT, e, ei, get2, set2, zLn, rOd, odDec, Od.row, rLn, lnDec, Ln.row]
          refine shNext (some (2, [[.v (.int .i64 o.space), .v (.int .i64 o.page)]]) :: some (2, stR b o l (k + 1)) :: (stH b l (k + 1) ++ [some (2, [[.v (.int .i64 o.space), .v (.int .i64 o.page)]]), none])) (by simpa using hE) ?_ ?_
          · rw [← hrs, hsn]
            refine ent_frz1 (n := stN b l k + ((lnT false L).length + ((shT (mdT b) (k + 1) (List.drop (k + 1) l)).length + 1)) + 1 + 1) (m := 1) (kc := 1) (rows := [[.v (.int .i64 o.space), .v (.int .i64 o.page)]]) (R := stR b o l k) (k := k) (z := .fsl true 3 (L.map Ln.row)) (x0 := some (2, [[.v (.int .i64 o.space), .v (.int .i64 o.page)]])) (A := List.replicate (stN b l k) none ++ (lnT false L ++ (shT (mdT b) (k + 1) (List.drop (k + 1) l) ++ [some (2, [[.v (.int .i64 o.space), .v (.int .i64 o.page)]])]))) (T := []) (by simp; omega) (by rw [hrl]; exact hk) (by simp) ?_ (by simp) ?_
            · intro r hr
              simp at hr; subst hr; rfl
            · simp [shotC, Cpu.hrow, odT, Od.row, e]
          · simp [hself]
            intro x hx a ha
            exact List.all_eq_true.1 (hlow x hx) a ha
        · have hO32 : O.length ≤ 4294967295 := by simp at hO4; omega
          have hO1 : ¬ O.length + 1 ≤ O.length := by omega
          simp [Try.ntmps35, Try.results35, cSl, cp0, cp1, cn0, cn1, cI, cD, cR, cF, cA, hO32, hO1, hk, hw, hsd, hrl, hg2, segR, lnA, odA, odT, eO, e, ei, e4, e4', get2X, set2X, zLn, rOd, odDec, Od.row, rLn, lnDec, Ln.row]
          refine shNext (some (2, [[.v (.int .i64 o.space), .v (.int .i64 o.page)]]) :: some (2, stR b o l (k + 1)) :: (stH b l (k + 1) ++ [some (2, [[.v (.int .i64 o.space), .v (.int .i64 o.page)]]), none])) (by simpa using hE) ?_ ?_
          · rw [← hrs, hsn]
            refine ent_frz1 (n := stN b l k + ((lnT false L).length + ((shT (mdT b) (k + 1) (List.drop (k + 1) l)).length + 1 + 1)) + 1 + 1) (m := O.length + 1) (kc := O.length + 1) (rows := O.map Od.row ++ [[.v (.int .i64 o.space), .v (.int .i64 o.page)]]) (R := stR b o l k) (k := k) (z := .fsl true 3 (L.map Ln.row)) (x0 := some (2, [[.v (.int .i64 o.space), .v (.int .i64 o.page)]])) (A := List.replicate (stN b l k) none ++ (lnT false L ++ (none :: (shT (mdT b) (k + 1) (List.drop (k + 1) l) ++ [some (2, [[.v (.int .i64 o.space), .v (.int .i64 o.page)]])])))) (T := []) (by simp; omega) (by rw [hrl]; exact hk) (by simp) ?_ (by simp) ?_
            · intro r hr
              rcases List.mem_append.1 hr with hr | hr
              · obtain ⟨x, _, rfl⟩ := List.mem_map.1 hr
                exact Od.low 0 x
              · simp at hr; subst hr; rfl
            · simp [shotC, Cpu.hrow, odT, Od.row, e, eO]
              rw [List.take_of_length_le (by simp)]
          · simp [hself]
            intro x hx a ha
            exact List.all_eq_true.1 (hlow x hx) a ha
  · rintro _ hall
    have hall2 : wtB b 0 l = false := by rw [← hall]; simp [wtB]
    rw [hall2]
    have hfin : stR b o l l.length = (shots b o 0 l).map Cpu.hrow := by simp [stR, shR]
    have ht : List.take l.length (List.map Cpu.hrow (shots b o 0 l)) = List.map Cpu.hrow (shots b o 0 l) := List.take_of_length_le (by simp [shots_len])
    simp [Try.ntmps35, Try.results35, cSl, cp0, cp1, cn0, cn1, cI, cD, cR, cF, cA, flE, hfin, shots_len, ht]
end
section
attribute [local simp] Ln.eta Ln.cold Ln.mapM Ln.mapMc Ln.view Ln.viewc Ln.hotR Ln.ren Ln.renc Ln.low Ln.tau Ln.tauc Ln.bare Ln.flat Ln.flat1 Ln.mapMt Ln.mapMd Ln.coldt Ln.coldd Ln.hotRt Ln.hotRd
attribute [local simp] Od.eta Od.cold Od.mapM Od.mapMc Od.view Od.viewc Od.hotR Od.ren Od.renc Od.low Od.tau Od.tauc Od.bare Od.flat Od.flat1 Od.mapMt Od.mapMd Od.coldt Od.coldd Od.hotRt Od.hotRd
attribute [local simp] Cpu.eta Cpu.dec_row Cpu.dec_hrow Cpu.cold Cpu.hcold Cpu.mapM Cpu.mapMc Cpu.hmapM Cpu.hmapMc Cpu.view Cpu.viewc Cpu.hview Cpu.hviewc Cpu.hotR Cpu.ren Cpu.renc Cpu.low Cpu.hlow
/-- lines of one's own: where they begin, how many, what the object has -/
structure OL where
  st : Nat
  len : Nat
  kc : Nat
  rows : List Ln
  hk : len ≤ kc
  ok : st + len ≤ rows.length
def olA (c : Nat) : Option OL → AVal
  | none => .esl
  | some o => .osl c 3 o.st o.len o.kc
def olT : Option OL → Option (Nat × List Row)
  | none => none
  | some o => some (3, o.rows.map Ln.row)
def cpR1 (g : Nat → Nat) (S : List (Option OL)) : List Row := S.mapIdx fun i o => [olA (g i) o, .junk]
def cpO (S : List (Option OL)) : AVal := if S = [] then .esl else .osl 0 2 0 S.length S.length
def cpH (S : List (Option OL)) : Heap := (if S = [] then none else some (2, cpR1 (· + 1) S)) :: S.map olT
def cpU (k : Nat) (S : List (Option OL)) : AVal × Heap := (.tup (cpO S :: List.replicate k .junk), cpH S)
theorem cpR1_len {g : Nat → Nat} {S : List (Option OL)} : (cpR1 g S).length = S.length := by simp [cpR1]
theorem cpR1_get {g : Nat → Nat} {S : List (Option OL)} {i : Nat} (hi : i < S.length) : (cpR1 g S)[i]? = some [olA (g i) S[i], .junk] := by simp [cpR1, List.getElem?_mapIdx, hi]
theorem olA_ren {th : List Nat} {id m : Nat} {o : Option OL} (h : o ≠ none → thOf 0 th id = m) : ren 0 th (olA id o) = olA m o := by
  cases o with
  | none => rfl
  | some o => simp only [olA, ren]; rw [h (by simp)]
theorem olA_low {id m : Nat} {o : Option OL} (h : o ≠ none → id < m) : lowA m (olA id o) = true := by
  cases o with
  | none => rfl
  | some o => simp only [olA, lowA, decide_eq_true_eq]; exact h (by simp)
theorem heapT_olT {th : List Nat} {N : Nat} {H : Heap} : ∀ (S : List (Option OL)) (i : Nat), (∀ (j : Nat) (h : j < S.length) (o : OL), S[j] = some o → H[thOf 0 th (i + j)]? = some (some (3, o.rows.map Ln.row))) → heapT 0 th N H i (S.map olT)
  | [], _, _ => trivial
  | x :: S, i, h => by
    have h0 := h 0 (by simp)
    have ih := heapT_olT (th := th) (N := N) (H := H) S (i + 1) (fun j hj o ho => by
      have := h (j + 1) (by simp; omega) o (by simpa using ho)
      rw [show i + (j + 1) = i + 1 + j by omega] at this
      exact this)
    cases x with
    | none => simp only [List.map_cons, olT, heapT]; exact ih
    | some o =>
      simp only [List.map_cons, olT, heapT]
      have h1 := h0 o rfl
      rw [Nat.add_zero] at h1
      refine ⟨?_, ?_, ih⟩
      · rw [h1]
        congr 3
        rw [List.map_map]
        apply List.map_congr_left
        intro a _
        simp [Ln.row, AI.ren]
      · simp [Ln.row, lowA]
def thC (M N : Nat) (g : Nat → Nat) (S : List (Option OL)) : List Nat := M :: (List.range S.length).map fun i => if (S[i]?.getD none).isSome = true then g i else N + i
theorem cpus_canon {H : Heap} {M n k : Nat} {R : List Row} {S : List (Option OL)} {g : Nat → Nat} {vs : List AVal} (hS : S ≠ []) (hn : n = S.length) (hk : vs.length = k) (hM : obj H M = some (2, R)) (hR : R.length = S.length)
    (hrow : ∀ (i : Nat) (hi : i < S.length), ∃ b, R[i]? = some [olA (g i) S[i], b])
    (hg : ∀ (j : Nat) (h : j < S.length) (o : OL), S[j] = some o → obj H (g j) = some (3, o.rows.map Ln.row) ∧ g j ≠ M)
    (hi : ∀ (a b : Nat) (h1 : a < S.length) (h2 : b < S.length), S[a] ≠ none → S[b] ≠ none → g a = g b → a = b) :
    Ent 0 ([(0, (cpU k S).1)], (cpU k S).2) ([(0, .tup (.osl M 2 0 n n :: vs))], H) := by
  subst hn hk
  have hlt : ∀ j (h : j < S.length), S[j] ≠ none → g j < H.length := fun j h e => by
    cases hq : S[j] with
    | none => exact absurd hq e
    | some o => exact ob_lt (hg j h o hq).1
  have hMl := ob_lt hM
  have e1 : Ent 0 ([(0, .tup (.osl M 2 0 S.length S.length :: vs))], H.set M (some (2, cpR1 g S))) ([(0, .tup (.osl M 2 0 S.length S.length :: vs))], H) := by
    refine Ent.rowsL hM (by rw [cpR1_len, hR]) fun i r r' hr hr' => ?_
    have hil : i < S.length := by have := (List.getElem?_eq_some_iff.1 hr).1; omega
    obtain ⟨b, hb⟩ := hrow i hil
    rw [hb] at hr
    rw [cpR1_get hil] at hr'
    cases hr; cases hr'
    refine ⟨rfl, fun j x y hx hy => ?_⟩
    match j, hx, hy with
    | 0, hx, hy => simp at hx hy; subst hx hy; exact @Lss.refl _
    | 1, hx, hy => simp at hx hy; subst hx hy; exact @Lss.junk _
    | j + 2, hx, hy => simp at hx
  have e2 : Ent 0 ([(0, .tup (.osl M 2 0 S.length S.length :: List.replicate vs.length .junk))], H.set M (some (2, cpR1 g S))) ([(0, .tup (.osl M 2 0 S.length S.length :: vs))], H.set M (some (2, cpR1 g S))) := by
    refine .trans (Ent.env (ρ := [(0, .tup (.osl M 2 0 S.length S.length :: List.replicate vs.length .junk)), (0, .tup (.osl M 2 0 S.length S.length :: vs))]) (by simp [AI.look])) (Ent.slotL (t := 0) ?_)
    simp only [AI.look, if_true]
    refine @lss_tup _ _ (by simp) fun j x r hx hr => ?_
    match j, hx, hr with
    | 0, hx, hr => simp at hx hr; subst hx hr; exact @Lss.refl _
    | j + 1, hx, hr =>
      simp only [List.getElem?_cons_succ] at hx hr
      rw [List.getElem?_replicate] at hr
      split at hr
      · cases hr; exact @Lss.junk _
      · cases hr
  refine .trans ?_ (.trans e2 e1)
  have hM' : (H.set M (some (2, cpR1 g S)))[M]? = some (some (2, cpR1 g S)) := List.getElem?_set_self hMl
  have hth : ∀ j (h : j < S.length), S[j] ≠ none → thOf 0 (thC M H.length g S) (j + 1) = g j := fun j h e => by
    have : S[j].isSome = true := by cases hq : S[j] with | none => exact absurd hq e | some o => rfl
    simp [thOf, thC, h, this]
  have ht0 : thOf 0 (thC M H.length g S) 0 = M := by simp [thOf, thC]
  have hU : cpU vs.length S = (.tup (.osl 0 2 0 S.length S.length :: List.replicate vs.length .junk), some (2, cpR1 (· + 1) S) :: S.map olT) := by
    simp [cpU, cpO, cpH, hS]
  rw [hU]
  refine Ent.weakT (th := thC M H.length g S) ⟨⟨Nat.zero_le _, Nat.zero_le _⟩, ⟨?_, by simp [thC], fun _ _ => Nat.zero_le _⟩, ?_, ?_⟩
  · unfold thC
    rw [List.nodup_cons]
    refine ⟨fun h => ?_, ?_⟩
    · obtain ⟨j, hj, e⟩ := List.mem_map.1 h
      have hjl : j < S.length := List.mem_range.1 hj
      simp only [List.getElem?_eq_getElem hjl, Option.getD_some] at e
      cases hq : S[j] with
      | none => rw [hq] at e; simp at e; omega
      | some o => rw [hq] at e; simp at e; exact (hg j hjl o hq).2 e
    · unfold List.Nodup
      rw [List.pairwise_map, List.pairwise_iff_getElem]
      intro p q hp hq hpq e
      simp only [List.length_range] at hp hq
      simp only [List.getElem_range, List.getElem?_eq_getElem hp, List.getElem?_eq_getElem hq, Option.getD_some] at e
      by_cases ea : S[p] = none <;> by_cases eb : S[q] = none
      · rw [ea, eb] at e; simp at e; omega
      · have h1 : S[q].isSome = true := by cases h : S[q] with | none => exact absurd h eb | some o => rfl
        have := hlt q hq eb
        rw [ea, h1] at e; simp at e; omega
      · have h1 : S[p].isSome = true := by cases h : S[p] with | none => exact absurd h ea | some o => rfl
        have := hlt p hp ea
        rw [eb, h1] at e; simp at e; omega
      · have h1 : S[p].isSome = true := by cases h : S[p] with | none => exact absurd h ea | some o => rfl
        have h2 : S[q].isSome = true := by cases h : S[q] with | none => exact absurd h eb | some o => rfl
        rw [h1, h2] at e; simp at e
        have := hi p q hp hq ea eb e; omega
  · intro p hp
    simp only [List.mem_singleton] at hp
    subst hp
    have hj : ∀ th m, renC 0 th (List.replicate m .junk) = List.replicate m .junk := fun th m => by rw [renC_map]; simp [AI.ren]
    have hj2 : ∀ N m, lowC N (List.replicate m .junk) = true := fun N m => by rw [lowC_all]; simp [lowA]
    refine ⟨?_, ?_⟩
    · simp only [AI.look, if_true, AI.ren, renC, hj, ht0]
    · simp [lowA, lowC, hj2]
  · have hlen : (some (2, cpR1 (· + 1) S) :: S.map olT : Heap).length = S.length + 1 := by simp
    rw [hlen]
    simp only [heapT]
    refine ⟨?_, ?_, ?_⟩
    · rw [ht0, hM']
      congr 3
      apply List.ext_getElem?
      intro i
      rw [List.getElem?_map]
      by_cases h : i < S.length
      · rw [cpR1_get h, cpR1_get h]
        simp only [Option.map_some, List.map_cons, List.map_nil, AI.ren]
        rw [olA_ren (m := g i) (fun e => hth i h e)]
      · rw [List.getElem?_eq_none (by rw [cpR1_len]; omega), List.getElem?_eq_none (by rw [cpR1_len]; omega)]; rfl
    · rw [List.all_eq_true]
      intro r hr
      obtain ⟨i, hi⟩ := List.getElem?_of_mem hr
      have hil : i < S.length := by have := (List.getElem?_eq_some_iff.1 hi).1; rwa [cpR1_len] at this
      rw [cpR1_get hil] at hi
      cases hi
      simp only [List.all_cons, List.all_nil, lowA, Bool.and_true]
      exact olA_low fun _ => by omega
    · refine heapT_olT S 1 fun j h o ho => ?_
      rw [Nat.add_comm 1 j, hth j h (by rw [ho]; simp)]
      obtain ⟨h1, h2⟩ := hg j h o ho
      rw [List.getElem?_set_ne (fun e => h2 e.symm)]
      exact obj_get h1
theorem cpus_err {k : Nat} {vs : List Value} {H : Heap} (hk : vs.length = k) : Ent 0 ([(0, (cpU k []).1)], (cpU k []).2) ([(0, .v (.tuple (Value.slice none 0 0 :: vs).toArray))], H) := by
  subst hk
  have hU : cpU vs.length [] = (.tup (.esl :: List.replicate vs.length .junk), [none]) := rfl
  rw [hU]
  refine Ent.trans (Ent.weak (s' := ([(0, .tup (.esl :: List.replicate vs.length .junk))], [none])) (s := ([(0, .tup (.esl :: List.replicate vs.length .junk)), (0, .v (.tuple (Value.slice none 0 0 :: vs).toArray))], H)) ?_) (Ent.slotL (t := 0) ?_)
  · refine ⟨Nat.zero_le _, fun p hp => ?_, ?_⟩
    · simp only [List.mem_singleton] at hp
      subst hp
      refine ⟨rfl, ?_⟩
      simp only [lowA, lowC, lowC_all]
      simp [lowA]
    · cases H <;> trivial
  · simp only [AI.look, if_true]
    refine @(Lss.vals (vs := Value.slice none 0 0 :: vs) (by simp) (fun j v r hv hr => by
      match j, hv, hr with
      | 0, hv, hr => simp at hv hr; subst hv hr; exact @Lss.nil_esl'
      | j + 1, hv, hr =>
        simp only [List.getElem?_cons_succ] at hv hr
        rw [List.getElem?_replicate] at hr
        split at hr
        · cases hr; exact @Lss.junk _
        · cases hr)).1
end
section
attribute [local simp] Ln.eta Ln.cold Ln.mapM Ln.mapMc Ln.view Ln.viewc Ln.hotR Ln.ren Ln.renc Ln.low Ln.tau Ln.tauc Ln.bare Ln.flat Ln.flat1 Ln.mapMt Ln.mapMd Ln.coldt Ln.coldd Ln.hotRt Ln.hotRd
attribute [local simp] Od.eta Od.cold Od.mapM Od.mapMc Od.view Od.viewc Od.hotR Od.ren Od.renc Od.low Od.tau Od.tauc Od.bare Od.flat Od.flat1 Od.mapMt Od.mapMd Od.coldt Od.coldd Od.hotRt Od.hotRd
attribute [local simp] Cpu.eta Cpu.dec_row Cpu.dec_hrow Cpu.cold Cpu.hcold Cpu.mapM Cpu.mapMc Cpu.hmapM Cpu.hmapMc Cpu.view Cpu.viewc Cpu.hview Cpu.hviewc Cpu.hotR Cpu.ren Cpu.renc Cpu.low Cpu.hlow
def odU (c : Nat) : Option (List Od) → AVal
  | none => .esl
  | some o => .osl c 2 0 o.length o.length
structure SI (n M : Nat) (S : List (Option OL)) (T : List (Option (List Od))) (g h : Nat → Nat) (R : List Row) (G : Heap) : Prop where
  lS : S.length = n
  lT : T.length = n
  lR : R.length = n
  oM : obj G M = some (2, R)
  row : ∀ (i : Nat) (h1 : i < S.length) (h2 : i < T.length), R[i]? = some [olA (g i) S[i], odU (h i) T[i]]
  ln : ∀ (i : Nat) (h1 : i < S.length) (o : OL), S[i] = some o → obj G (g i) = some (3, o.rows.map Ln.row) ∧ g i ≠ M
  od : ∀ (i : Nat) (h1 : i < T.length) (o : List Od), T[i] = some o → obj G (h i) = some (2, o.map Od.row) ∧ h i ≠ M
  gg : ∀ (a b : Nat) (h1 : a < S.length) (h2 : b < S.length), S[a] ≠ none → S[b] ≠ none → g a = g b → a = b
  hh : ∀ (a b : Nat) (h1 : a < T.length) (h2 : b < T.length), T[a] ≠ none → T[b] ≠ none → h a = h b → a = b
  gh : ∀ (a b : Nat) (h1 : a < S.length) (h2 : b < T.length), S[a] ≠ none → T[b] ≠ none → g a ≠ h b
namespace SI
variable {n M : Nat} {S : List (Option OL)} {T : List (Option (List Od))} {g h : Nat → Nat} {R : List Row} {G G' : Heap}
theorem gl (q : SI n M S T g h R G) {i : Nat} (hi : i < S.length) (e : S[i] ≠ none) : g i < G.length := by
  cases hq : S[i] with
  | none => exact absurd hq e
  | some o => exact ob_lt (q.ln i hi o hq).1
theorem hl (q : SI n M S T g h R G) {i : Nat} (hi : i < T.length) (e : T[i] ≠ none) : h i < G.length := by
  cases hq : T[i] with
  | none => exact absurd hq e
  | some o => exact ob_lt (q.od i hi o hq).1
theorem setLn (q : SI n M S T g h R G) {k P : Nat} {o : OL} {b : AVal} (hk : k < n) (hb : ∃ a, R[k]? = some [a, b]) (hM : obj G' M = some (2, R.set k [.osl P 3 o.st o.len o.kc, b]))
    (keep : ∀ (i : Nat) x, i ≠ M → (∀ hs : k < S.length, S[k] ≠ none → i ≠ g k) → obj G i = some x → obj G' i = some x) (hP : obj G' P = some (3, o.rows.map Ln.row)) (hf : (∃ hs : k < S.length, P = g k ∧ S[k] ≠ none) ∨ G.length ≤ P) :
    SI n M (S.set k (some o)) T (fun i => if i = k then P else g i) h (R.set k [.osl P 3 o.st o.len o.kc, b]) G' := by
  have hkS : k < S.length := by rw [q.lS]; exact hk
  have hkT : k < T.length := by rw [q.lT]; exact hk
  have hML := ob_lt q.oM
  have hPM : P ≠ M := by
    rcases hf with ⟨_, rfl, e⟩ | e
    · cases hq : S[k] with
      | none => exact absurd hq e
      | some o => exact (q.ln k hkS o hq).2
    · omega
  obtain ⟨a, hb⟩ := hb
  have hrk := q.row k hkS hkT
  rw [hb] at hrk
  simp only [Option.some.injEq, List.cons.injEq, and_true] at hrk
  have hne : ∀ (i : Nat) (h1 : i < S.length), i ≠ k → (S.set k (some o))[i]'(by rw [List.length_set]; exact h1) = S[i] := fun i h1 e => List.getElem_set_ne (fun x => e x.symm) _
  have hPg : ∀ (i : Nat) (h1 : i < S.length), i ≠ k → S[i] ≠ none → P ≠ g i := fun i h1 e e2 => by
    rcases hf with ⟨hs, rfl, e3⟩ | e3
    · exact fun x => e (q.gg i k h1 hs e2 e3 x.symm)
    · have := q.gl h1 e2; omega
  have hPh : ∀ (i : Nat) (h1 : i < T.length), T[i] ≠ none → P ≠ h i := fun i h1 e2 => by
    rcases hf with ⟨hs, rfl, e3⟩ | e3
    · exact q.gh k i hs h1 e3 e2
    · have := q.hl h1 e2; omega
  refine ⟨by rw [List.length_set]; exact q.lS, q.lT, by rw [List.length_set]; exact q.lR, hM, ?_, ?_, ?_, ?_, q.hh, ?_⟩
  · intro i h1 h2
    rw [List.length_set] at h1
    by_cases e : i = k
    · subst e
      rw [List.getElem?_set_self (by rw [q.lR]; exact hk)]
      simp only [List.getElem_set_self, if_true, olA, hrk.2]
    · rw [List.getElem?_set_ne (fun x => e x.symm), q.row i h1 h2, hne i h1 e]
      simp only [if_neg e]
  · intro i h1 o' ho
    rw [List.length_set] at h1
    by_cases e : i = k
    · subst e
      simp only [List.getElem_set_self, Option.some.injEq] at ho
      subst ho
      simp only [if_true]
      exact ⟨hP, hPM⟩
    · rw [hne i h1 e] at ho
      simp only [if_neg e]
      obtain ⟨u1, u2⟩ := q.ln i h1 o' ho
      exact ⟨keep _ _ u2 (fun hs e2 x => e (q.gg i k h1 hs (by rw [ho]; simp) e2 x)) u1, u2⟩
  · intro i h1 o' ho
    obtain ⟨u1, u2⟩ := q.od i h1 o' ho
    exact ⟨keep _ _ u2 (fun hs e2 x => q.gh k i hs h1 e2 (by rw [ho]; simp) x.symm) u1, u2⟩
  · intro a b h1' h2' ea eb
    have h1 := h1'
    have h2 := h2'
    rw [List.length_set] at h1 h2
    by_cases e1 : a = k <;> by_cases e2 : b = k
    · omega
    · subst e1
      rw [hne b h2 e2] at eb
      simp only [if_true, if_neg e2]
      exact fun x => absurd x (hPg b h2 e2 eb)
    · subst e2
      rw [hne a h1 e1] at ea
      simp only [if_true, if_neg e1]
      exact fun x => absurd x.symm (hPg a h1 e1 ea)
    · rw [hne a h1 e1] at ea
      rw [hne b h2 e2] at eb
      simp only [if_neg e1, if_neg e2]
      exact q.gg a b h1 h2 ea eb
  · intro a b h1' h2 ea eb
    have h1 := h1'
    rw [List.length_set] at h1
    by_cases e1 : a = k
    · subst e1
      simp only [if_true]
      exact hPh b h2 eb
    · rw [hne a h1 e1] at ea
      simp only [if_neg e1]
      exact q.gh a b h1 h2 ea eb
theorem setOd (q : SI n M S T g h R G) {k P : Nat} {o : List Od} {a : AVal} (hk : k < n) (hb : ∃ b, R[k]? = some [a, b]) (hM : obj G' M = some (2, R.set k [a, .osl P 2 0 o.length o.length]))
    (keep : ∀ (i : Nat) x, i ≠ M → (∀ hs : k < T.length, T[k] ≠ none → i ≠ h k) → obj G i = some x → obj G' i = some x) (hP : obj G' P = some (2, o.map Od.row)) (hf : (∃ hs : k < T.length, P = h k ∧ T[k] ≠ none) ∨ G.length ≤ P) :
    SI n M S (T.set k (some o)) g (fun i => if i = k then P else h i) (R.set k [a, .osl P 2 0 o.length o.length]) G' := by
  have hkS : k < S.length := by rw [q.lS]; exact hk
  have hkT : k < T.length := by rw [q.lT]; exact hk
  have hML := ob_lt q.oM
  have hPM : P ≠ M := by
    rcases hf with ⟨_, rfl, e⟩ | e
    · cases hq : T[k] with
      | none => exact absurd hq e
      | some o => exact (q.od k hkT o hq).2
    · omega
  obtain ⟨b, hb⟩ := hb
  have hrk := q.row k hkS hkT
  rw [hb] at hrk
  simp only [Option.some.injEq, List.cons.injEq, and_true] at hrk
  have hne : ∀ (i : Nat) (h1 : i < T.length), i ≠ k → (T.set k (some o))[i]'(by rw [List.length_set]; exact h1) = T[i] := fun i h1 e => List.getElem_set_ne (fun x => e x.symm) _
  have hPh : ∀ (i : Nat) (h1 : i < T.length), i ≠ k → T[i] ≠ none → P ≠ h i := fun i h1 e e2 => by
    rcases hf with ⟨hs, rfl, e3⟩ | e3
    · exact fun x => e (q.hh i k h1 hs e2 e3 x.symm)
    · have := q.hl h1 e2; omega
  have hPg : ∀ (i : Nat) (h1 : i < S.length), S[i] ≠ none → g i ≠ P := fun i h1 e2 => by
    rcases hf with ⟨hs, rfl, e3⟩ | e3
    · exact q.gh i k h1 hs e2 e3
    · have := q.gl h1 e2; omega
  refine ⟨q.lS, by rw [List.length_set]; exact q.lT, by rw [List.length_set]; exact q.lR, hM, ?_, ?_, ?_, q.gg, ?_, ?_⟩
  · intro i h1 h2
    rw [List.length_set] at h2
    by_cases e : i = k
    · subst e
      rw [List.getElem?_set_self (by rw [q.lR]; exact hk)]
      simp only [List.getElem_set_self, if_true, odU, hrk.1]
    · rw [List.getElem?_set_ne (fun x => e x.symm), q.row i h1 h2, hne i h2 e]
      simp only [if_neg e]
  · intro i h1 o' ho
    obtain ⟨u1, u2⟩ := q.ln i h1 o' ho
    exact ⟨keep _ _ u2 (fun hs e2 x => q.gh i k h1 hs (by rw [ho]; simp) e2 x) u1, u2⟩
  · intro i h1 o' ho
    rw [List.length_set] at h1
    by_cases e : i = k
    · subst e
      simp only [List.getElem_set_self, Option.some.injEq] at ho
      subst ho
      simp only [if_true]
      exact ⟨hP, hPM⟩
    · rw [hne i h1 e] at ho
      simp only [if_neg e]
      obtain ⟨u1, u2⟩ := q.od i h1 o' ho
      exact ⟨keep _ _ u2 (fun hs e2 x => e (q.hh i k h1 hs (by rw [ho]; simp) e2 x)) u1, u2⟩
  · intro a b h1' h2' ea eb
    have h1 := h1'
    have h2 := h2'
    rw [List.length_set] at h1 h2
    by_cases e1 : a = k <;> by_cases e2 : b = k
    · omega
    · subst e1
      rw [hne b h2 e2] at eb
      simp only [if_true, if_neg e2]
      exact fun x => absurd x (hPh b h2 e2 eb)
    · subst e2
      rw [hne a h1 e1] at ea
      simp only [if_true, if_neg e1]
      exact fun x => absurd x.symm (hPh a h1 e1 ea)
    · rw [hne a h1 e1] at ea
      rw [hne b h2 e2] at eb
      simp only [if_neg e1, if_neg e2]
      exact q.hh a b h1 h2 ea eb
  · intro a b h1 h2' ea eb
    have h2 := h2'
    rw [List.length_set] at h2
    by_cases e1 : b = k
    · subst e1
      simp only [if_true]
      exact hPg a h1 ea
    · rw [hne b h2 e1] at eb
      simp only [if_neg e1]
      exact q.gh a b h1 h2 ea eb
theorem canon (q : SI n M S T g h R G) (hn : 0 < n) {k : Nat} {vs : List AVal} (hk : vs.length = k) : Ent 0 ([(0, (cpU k S).1)], (cpU k S).2) ([(0, .tup (.osl M 2 0 n n :: vs))], G) := by
  have hS : S ≠ [] := by
    intro e
    have := q.lS
    rw [e] at this
    simp at this
    omega
  refine cpus_canon hS q.lS.symm hk q.oM (q.lR.trans q.lS.symm) (fun i hi => ⟨_, q.row i hi (by rw [q.lT, ← q.lS]; exact hi)⟩) q.ln q.gg
theorem canonO (q : SI n M S T g h R G) (hn : 0 < n) {k : Nat} {b : AVal} {c : Nat} {vs : List AVal} (hc : vs.length = c) (hk : k < n) (hM : obj G' M = some (2, R.set k [olA (g k) (S[k]'(by rw [q.lS]; exact hk)), b]))
    (keep : ∀ (j : Nat) (hj : j < S.length) (o : OL), S[j] = some o → obj G' (g j) = obj G (g j)) : Ent 0 ([(0, (cpU c S).1)], (cpU c S).2) ([(0, .tup (.osl M 2 0 n n :: vs))], G') := by
  have hS : S ≠ [] := by
    intro e
    have := q.lS
    rw [e] at this
    simp at this
    omega
  refine cpus_canon hS q.lS.symm hc hM (by rw [List.length_set]; exact q.lR.trans q.lS.symm) (fun i hi => ?_) (fun j hj o ho => ?_) q.gg
  · by_cases e : i = k
    · subst e
      exact ⟨_, by rw [List.getElem?_set_self (by rw [q.lR]; exact hk)]⟩
    · rw [List.getElem?_set_ne (fun x => e x.symm)]
      exact ⟨_, q.row i hi (by rw [q.lT, ← q.lS]; exact hi)⟩
  · obtain ⟨u1, u2⟩ := q.ln j hj o ho
    exact ⟨(keep j hj o ho).trans u1, u2⟩
end SI
/-- a copy, as it lies in memory -/
def md1 : Mode := fun _ => (true, true)
def pz (l : List Cpu) (i : Nat) : Nat := (shT md1 0 (l.take i)).length
def olOf (c : Cpu) : Option OL := if c.lines = [] then none else some ⟨0, c.lines.length, c.lines.length, c.lines, Nat.le_refl _, by omega⟩
def odOf (c : Cpu) : Option (List Od) := if c.orders = [] then none else some c.orders
theorem pz_next {l : List Cpu} {i : Nat} (hi : i < l.length) : pz l (i + 1) = pz l i + ((lnT true l[i].lines).length + (odT true l[i].orders).length) := by
  unfold pz
  rw [cpT_next hi]
  simp [segT, md1]
theorem pz_mono {l : List Cpu} {i j : Nat} (hij : i ≤ j) (hj : j ≤ l.length) : pz l i ≤ pz l j := by
  induction j with
  | zero => have : i = 0 := by omega
            subst this; exact Nat.le_refl _
  | succ j ih =>
    rcases Nat.lt_or_ge i (j + 1) with h | h
    · have := ih (by omega) (by omega)
      rw [pz_next (by omega)]
      omega
    · have : i = j + 1 := by omega
      subst this; exact Nat.le_refl _
theorem shT_get1 {l : List Cpu} {i : Nat} (hi : i < l.length) (h : l[i].lines ≠ []) : (shT md1 0 l)[pz l i]? = some (some (3, l[i].lines.map Ln.row)) := by
  unfold pz
  rw [shT_split (md := md1) hi, List.getElem?_append_right (Nat.le_refl _)]
  simp [md1, lnT, h]
theorem shT_get2 {l : List Cpu} {i : Nat} (hi : i < l.length) (h : l[i].orders ≠ []) : (shT md1 0 l)[pz l i + (lnT true l[i].lines).length]? = some (some (2, l[i].orders.map Od.row)) := by
  rw [shT_split (md := md1) hi, List.getElem?_append_right (by unfold pz; omega)]
  have e : pz l i + (lnT true l[i].lines).length - (shT md1 0 (l.take i)).length = (lnT true l[i].lines).length := by unfold pz; omega
  rw [e]
  show (lnT true l[i].lines ++ (odT true l[i].orders ++ shT md1 (i + 1) (l.drop (i + 1))))[(lnT true l[i].lines).length]? = _
  rw [List.getElem?_append_right (Nat.le_refl _)]
  simp [odT, h]
theorem ln1 {L : List Ln} (h : L ≠ []) : (lnT true L).length = 1 := by simp [lnT, h]
theorem od1 {L : List Od} (h : L ≠ []) : (odT true L).length = 1 := by simp [odT, h]
theorem SI.of_cpy {l : List Cpu} (pre : Heap) : SI l.length pre.length (l.map olOf) (l.map odOf) (fun i => pre.length + 1 + pz l i) (fun i => pre.length + 1 + pz l i + (lnT true (l[i]?.getD ⟨[], []⟩).lines).length) (shR md1 0 (pre.length + 1) l) (pre ++ some (2, shR md1 0 (pre.length + 1) l) :: shT md1 0 l) := by
  have hm : ∀ (i : Nat) (h : i < (l.map olOf).length), i < l.length := fun i h => by simpa using h
  have hm2 : ∀ (i : Nat) (h : i < (l.map odOf).length), i < l.length := fun i h => by simpa using h
  have nl : ∀ (i : Nat) (h : i < (l.map olOf).length), (l.map olOf)[i] ≠ none → (l[i]'(hm i h)).lines ≠ [] := fun i h e q => by
    rw [List.getElem_map] at e
    simp [olOf, q] at e
  have no : ∀ (i : Nat) (h : i < (l.map odOf).length), (l.map odOf)[i] ≠ none → (l[i]'(hm2 i h)).orders ≠ [] := fun i h e q => by
    rw [List.getElem_map] at e
    simp [odOf, q] at e
  have hget : ∀ k : Nat, (pre ++ some (2, shR md1 0 (pre.length + 1) l) :: shT md1 0 l)[pre.length + 1 + k]? = (shT md1 0 l)[k]? := fun k => by
    rw [List.getElem?_append_right (by omega), show pre.length + 1 + k - pre.length = k + 1 by omega, List.getElem?_cons_succ]
  refine ⟨by simp, by simp, shR_len _ _ _ _, ob_of (by simp) (by decide), ?_, ?_, ?_, ?_, ?_, ?_⟩
  · intro i h1 h2
    have hi := hm i h1
    rw [shR_get hi]
    simp only [List.getElem_map, List.getElem?_eq_getElem hi, Option.getD_some, segR, md1, olOf, odOf, pz]
    congr 2
    · unfold lnA
      by_cases e : l[i].lines = []
      · simp [e, olA]
      · simp [e, olA]
    · unfold odA
      by_cases e : l[i].orders = []
      · simp [e, odU]
      · simp [e, odU]
  · intro i h1 o ho
    have hi := hm i h1
    have hn := nl i h1 (by rw [ho]; simp)
    rw [List.getElem_map, olOf, if_neg hn] at ho
    cases ho
    refine ⟨ob_of ?_ (by decide), by omega⟩
    rw [hget]
    exact shT_get1 hi hn
  · intro i h1 o ho
    have hi := hm2 i h1
    have hn := no i h1 (by rw [ho]; simp)
    rw [List.getElem_map, odOf, if_neg hn] at ho
    cases ho
    refine ⟨ob_of ?_ (by decide), by omega⟩
    simp only [List.getElem?_eq_getElem hi, Option.getD_some]
    rw [show pre.length + 1 + pz l i + (lnT true l[i].lines).length = pre.length + 1 + (pz l i + (lnT true l[i].lines).length) by omega, hget]
    exact shT_get2 hi hn
  · intro a b h1 h2 ea eb e
    have ha := hm a h1
    have hb := hm b h2
    have na := ln1 (nl a h1 ea)
    have nb := ln1 (nl b h2 eb)
    rcases Nat.lt_trichotomy a b with q | q | q
    · have h3 := pz_mono (l := l) (i := a + 1) (j := b) q (by omega)
      rw [pz_next ha] at h3
      omega
    · exact q
    · have h3 := pz_mono (l := l) (i := b + 1) (j := a) q (by omega)
      rw [pz_next hb] at h3
      omega
  · intro a b h1 h2 ea eb e
    have ha := hm2 a h1
    have hb := hm2 b h2
    have na := od1 (no a h1 ea)
    have nb := od1 (no b h2 eb)
    simp only [List.getElem?_eq_getElem ha, List.getElem?_eq_getElem hb, Option.getD_some] at e
    rcases Nat.lt_trichotomy a b with q | q | q
    · have h3 := pz_mono (l := l) (i := a + 1) (j := b) q (by omega)
      rw [pz_next ha] at h3
      omega
    · exact q
    · have h3 := pz_mono (l := l) (i := b + 1) (j := a) q (by omega)
      rw [pz_next hb] at h3
      omega
  · intro a b h1 h2 ea eb e
    have ha := hm a h1
    have hb := hm2 b h2
    have na := ln1 (nl a h1 ea)
    have nb := od1 (no b h2 eb)
    simp only [List.getElem?_eq_getElem hb, Option.getD_some] at e
    rcases Nat.lt_trichotomy a b with q | q | q
    · have h3 := pz_mono (l := l) (i := a + 1) (j := b) q (by omega)
      rw [pz_next ha] at h3
      omega
    · subst q; omega
    · have h3 := pz_mono (l := l) (i := b + 1) (j := a) q (by omega)
      rw [pz_next hb] at h3
      omega
/-- bounded -/
def bdS (S : List (Option OL)) : Prop := S.length ≤ 1048576 ∧ ∀ (i : Nat) (o : OL), S[i]? = some (some o) → o.len ≤ 1048577
def SB : Type := {S : List (Option OL) // bdS S}
def cpV (k : Nat) (y : SB) : AVal × Heap := cpU k y.1
theorem bdS_nil : bdS [] := ⟨by decide, fun i o h => by cases h⟩
theorem bdS_set {S : List (Option OL)} {k : Nat} {o : OL} (h : bdS S) (ho : o.len ≤ 1048577) : bdS (S.set k (some o)) := by
  refine ⟨by rw [List.length_set]; exact h.1, fun i o' h1 => ?_⟩
  by_cases e : k = i
  · subst e
    by_cases hk : k < S.length
    · rw [List.getElem?_set_self hk] at h1
      cases h1; exact ho
    · rw [List.getElem?_eq_none (by rw [List.length_set]; omega)] at h1
      cases h1
  · rw [List.getElem?_set_ne e] at h1
    exact h.2 i o' h1
theorem bdS_ol {l : List Cpu} (h1 : l.length ≤ 1048576) (h2 : ∀ c ∈ l, c.lines.length ≤ 8) : bdS (l.map olOf) := by
  refine ⟨by rw [List.length_map]; exact h1, fun i o h => ?_⟩
  rw [List.getElem?_map, Option.map_eq_some_iff] at h
  obtain ⟨c, hc, ho⟩ := h
  have := h2 c (List.mem_of_getElem? hc)
  unfold olOf at ho
  split at ho
  · cases ho
  · cases ho
    show c.lines.length ≤ _
    omega
theorem bdE {k : Nat} {S : List (Option OL)} {x : AVal} {H : Heap} (hb : bdS S) (h : Ent 0 ([(0, (cpU k S).1)], (cpU k S).2) ([(0, x)], H)) : ∃ y : SB, Ent 0 ([(0, (cpV k y).1)], (cpV k y).2) ([(0, x)], H) := ⟨⟨S, hb⟩, h⟩
end
section
set_option maxHeartbeats 8000000
attribute [local simp] Ln.eta Ln.cold Ln.mapM Ln.mapMc Ln.view Ln.viewc Ln.hotR Ln.ren Ln.renc Ln.low Ln.tau Ln.tauc Ln.bare Ln.flat Ln.flat1 Ln.mapMt Ln.mapMd Ln.coldt Ln.coldd Ln.hotRt Ln.hotRd
attribute [local simp] Od.eta Od.cold Od.mapM Od.mapMc Od.view Od.viewc Od.hotR Od.ren Od.renc Od.low Od.tau Od.tauc Od.bare Od.flat Od.flat1 Od.mapMt Od.mapMd Od.coldt Od.coldd Od.hotRt Od.hotRd
attribute [local simp] Cpu.eta Cpu.dec_row Cpu.dec_hrow Cpu.cold Cpu.hcold Cpu.mapM Cpu.mapMc Cpu.hmapM Cpu.hmapMc Cpu.view Cpu.viewc Cpu.hview Cpu.hviewc Cpu.hotR Cpu.ren Cpu.renc Cpu.low Cpu.hlow
theorem fill_own : InlR Try.prog 36 (own0R (argG (cSl rCpu) fun l => argG (cInt .i64) fun cpu => argG (cInt .i64) fun s => argG (cInt .i64) fun p => argG (cInt .u32) fun w => finG (if l.length ≤ 1048576 then some (cpV 1) else none))) := by
  refine ownR_5 Try.func36 rfl ?_
  rintro l cpu s p w r hr
  by_cases hc : l.length ≤ 1048576
  case neg => rw [if_neg hc] at hr; cases hr
  rw [if_pos hc] at hr
  simp only [Option.some.injEq] at hr
  subst hr
  refine bodyR_split (.s (.s (.s (.s .z)))) ((((noOrc_ok.withP tlChk_pure).withP tlRight_pure).withIF (cpy_inl md1) frameN_loc).withI fillDel_inl) fxMix (by kernel_rfl) (by simp [Try.ntmps36]) ?_
  intro C cP cI cN cD cF cA cR cL
  have cp0 := orcP tlChk_pure (C := C) (by rw [cP]; rfl)
  have cp1 := orcP tlRight_pure (C := C) (by rw [cP]; rfl)
  have cn0 := orcI (cpy_inl md1) (C := C) (by rw [cN]; rfl)
  have cn1 := orcI fillDel_inl (C := C) (by rw [cN]; rfl)
  replace cI := fun g => congrFun cI g
  simp only [Orc.withP, Orc.withI, Orc.withF, Orc.withD, Orc.withA, Orc.withR, Orc.withC, noOrc] at cI
  replace cR : C.rd = fun _ => none := cR
  replace cD : C.dyn = fun _ => [] := cD
  clear cP cN cF cA
  intro hOk hRF
  by_cases h0 : tlChk l cpu = 0
  case neg =>
    simp [Try.ntmps36, Try.results36, cSl, cp0, cp1, cn0, cn1, cI, cD, cR, splitC, wpL, rCpu, cpuDec, Cpu.row, rLn, lnDec, rOd, odDec, h0]
    exact bdE bdS_nil (cpus_err (vs := [.int .i64 (tlChk l cpu)]) rfl)
  by_cases h1 : okSP s p = true
  case neg =>
    simp only [Bool.not_eq_true] at h1
    simp [Try.ntmps36, Try.results36, cSl, cp0, cp1, cn0, cn1, cI, cD, cR, splitC, wpL, rCpu, cpuDec, Cpu.row, rLn, lnDec, rOd, odDec, h0, h1]
    exact bdE bdS_nil (cpus_err (vs := [.int .i64 1]) rfl)
  obtain ⟨g0, g1, g2⟩ := tlChk_iff.1 h0
  obtain ⟨k, rfl⟩ := Int.eq_ofNat_of_zero_le g1
  have hk : k < l.length := by omega
  obtain ⟨l1, l2, l3⟩ := tlCheck_iff.1 g0
  have hcp : (∀ c ∈ l, c.lines.length ≤ 8 ∧ c.orders.length ≤ 4) = True := eq_true fun c hc => cpuE_len (l3 c hc)
  have hbd : bdS (l.map olOf) := bdS_ol hc fun c h => (of_eq_true hcp c h).1
  obtain ⟨g, h, R, G, q, hG⟩ : ∃ g h R G, SI l.length 2 (l.map olOf) (l.map odOf) g h R G ∧ G = [some (1, [[.v (.int .i64 s)]]), some (1, [[.v (.int .i64 p)]])] ++ some (2, shR md1 0 3 l) :: shT md1 0 l := ⟨_, _, _, _, SI.of_cpy [some (1, [[.v (.int .i64 s)]]), some (1, [[.v (.int .i64 p)]])], rfl⟩
  simp [Try.ntmps36, Try.results36, cSl, cp0, cp1, cn0, cn1, cI, cD, cR, splitC, wpL, rCpu, cpuDec, Cpu.row, rLn, lnDec, rOd, odDec, h0, h1, l1, l2, hcp, shR_tau, shT_tau, shR_new, shT_new]
  refine AWp.heapE (show _ = G by rw [hG]; rfl) ?_
  have hL8 : l[k].lines.length ≤ 8 := (cpuE_len (l3 l[k] (List.getElem_mem hk))).1
  have hS : (l.map olOf)[k]'(by simpa using hk) = olOf l[k] := by simp
  have hrow := q.row k (by simpa using hk) (by simpa using hk)
  have q0 : G[0]? = some (some (1, [[.v (.int .i64 s)]])) := by rw [hG]; rfl
  have q1 : G[1]? = some (some (1, [[.v (.int .i64 p)]])) := by rw [hG]; rfl
  have q2 := obj_get q.oM
  have hG2 := ob_lt q.oM
  have hRl := q.lR
  have hkR : k < R.length := by omega
  have hln := q.ln k (by simpa using hk)
  have hgl := q.gl (i := k) (by simpa using hk)
  rw [hS] at hrow hln hgl
  generalize hhk : h k = hk1 at hrow
  generalize (l.map odOf)[k]'(by simpa using hk) = Tk at hrow
  have hRk : R[k] = [olA (g k) (olOf l[k]), odU hk1 Tk] := by
    rw [List.getElem?_eq_getElem hkR] at hrow
    exact Option.some.inj hrow
  have e0 : ∀ X : Heap, (G ++ X)[0]? = some (some (1, [[.v (.int .i64 s)]])) := fun X => by rw [List.getElem?_append_left (by omega)]; exact q0
  have e1 : ∀ X : Heap, (G ++ X)[1]? = some (some (1, [[.v (.int .i64 p)]])) := fun X => by rw [List.getElem?_append_left (by omega)]; exact q1
  have e2 : ∀ X : Heap, (G ++ X)[2]? = some (some (2, R)) := fun X => by rw [List.getElem?_append_left hG2]; exact q2
  have g0' := (List.getElem?_eq_some_iff.1 q0).2
  have g1' := (List.getElem?_eq_some_iff.1 q1).2
  have g2' := (List.getElem?_eq_some_iff.1 q2).2
  have lt0 : 0 < G.length := by omega
  have lt1 : 1 < G.length := by omega
  by_cases e : l[k].lines = []
  · have hO : olOf l[k] = none := by simp [olOf, e]
    rw [hO] at hRk
    refine wpA_sound hOk fxMix _ _ _ _ (by rw [hRF]; kernel_rfl) ?_
    simp [Try.ntmps36, Try.results36, cSl, cp0, cp1, cn0, cn1, cI, cD, cR, q0, q1, q2, e0, e1, e2, g0', g1', g2', hRl, hk, hRk, olA, lt0, lt1, hG2, rCapL, rI, irow, irowDec, rLn, Ln.row, lnDec]
    refine bdE ?_ ((q.setLn (k := k) (P := G.length + 1) (o := ⟨0, 1, 1, [⟨s, p, w⟩], Nat.le_refl _, by simp⟩) hk ⟨_, hrow⟩ ?_ ?_ ?_ (.inr (by omega))).canon (by omega) (vs := [.v (.int .i64 0)]) rfl)
    · exact bdS_set hbd (by simp only; omega)
    · exact ob_app (ob_self hG2 (by decide))
    · exact fun i x h1 _ h3 => ob_app (by rw [ob_ne (fun e => h1 e.symm)]; exact h3)
    · exact ob_of (by rw [List.getElem?_append_right (by simp)]; simp [Ln.row]) (by decide)
  · obtain ⟨o, hO⟩ : ∃ o, olOf l[k] = some o := by simp [olOf, e]
    have hO2 := hO
    unfold olOf at hO2
    rw [if_neg e] at hO2
    simp only [Option.some.injEq] at hO2
    obtain ⟨hgo, hg2⟩ := hln o hO
    have hgl' := hgl (by rw [hO]; simp)
    have hSne : (l.map olOf)[k]'(by simpa using hk) ≠ none := by rw [hS, hO]; simp
    rw [hO] at hRk hrow
    subst hO2
    simp only [olA] at hRk hrow
    simp only at hgo
    have hgk := obj_get hgo
    have hgk' := (List.getElem?_eq_some_iff.1 hgk).2
    clear hO hln hgl hS
    generalize hggk : g k = gk at *
    generalize hL : l[k].lines = L at *
    have n0 : gk ≠ 0 := by rintro rfl; rw [q0] at hgk; cases hgk
    have n1 : gk ≠ 1 := by rintro rfl; rw [q1] at hgk; cases hgk
    have f0 : ∀ y (hh : 0 < (G.set gk y).length), (G.set gk y)[0]'hh = some (1, [[.v (.int .i64 s)]]) := fun y hh => by rw [List.getElem_set_ne n0]; exact g0'
    have f1 : ∀ y (hh : 1 < (G.set gk y).length), (G.set gk y)[1]'hh = some (1, [[.v (.int .i64 p)]]) := fun y hh => by rw [List.getElem_set_ne n1]; exact g1'
    have f2 : ∀ y (hh : 2 < (G.set gk y).length), (G.set gk y)[2]'hh = some (2, R) := fun y hh => by rw [List.getElem_set_ne hg2]; exact g2'
    have fg : ∀ y (hh : gk < (G.set gk y).length), (G.set gk y)[gk]'hh = y := fun y hh => by rw [List.getElem_set_self]
    have m0 : ∀ y X, (G.set gk y ++ X)[0]? = some (some (1, [[.v (.int .i64 s)]])) := fun y X => by rw [List.getElem?_append_left (by simp; omega), List.getElem?_set_ne n0]; exact q0
    have m1 : ∀ y X, (G.set gk y ++ X)[1]? = some (some (1, [[.v (.int .i64 p)]])) := fun y X => by rw [List.getElem?_append_left (by simp; omega), List.getElem?_set_ne n1]; exact q1
    have m2 : ∀ y X, (G.set gk y ++ X)[2]? = some (some (2, R)) := fun y X => by rw [List.getElem?_append_left (by simp; omega), List.getElem?_set_ne hg2]; exact q2
    have mg : ∀ y X, (G.set gk y ++ X)[gk]? = some y := fun y X => by rw [List.getElem?_append_left (by simpa using hgl'), List.getElem?_set_self hgl']
    have hpos : 0 < L.length := List.length_pos_iff.2 e
    have hL9 : L.length ≤ 1048576 := by omega
    have hML : (L.filter (fun x => !x.at s p)).length ≤ L.length := List.length_filter_le _ _
    by_cases hm8 : (L.filter (fun x => !x.at s p)).length = 8
    · have hL88 : L.length = 8 := by omega
      have hm8' : ((L.filter (fun x => !x.at s p)).length : Int) = 8 := by omega
      refine AWp.split hOk fxMix (.s (.s .z)) (by rw [hRF]; kernel_rfl) ?_
      generalize hM : L.filter (fun x => !x.at s p) = M at *
      simp [Try.ntmps36, Try.results36, cSl, cp0, cp1, cn0, cn1, cI, cD, cR, splitC, wpL, q0, q1, q2, e0, e1, e2, g0', g1', g2', hRl, hk, hRk, lt0, lt1, hG2, hgk, hgk', hgl', n0, n1, hg2, f0, f1, f2, fg, m0, m1, m2, mg, hpos, hL9, hM, hm8, hm8', hL88, rCapL, rI, irow, irowDec, rLn, Ln.row, lnDec]
      refine AWp.seq (AWp.appRi hOk 8 (o := _) (c := _) (s := .tmp 42) (x := .tmp 47) (t := 69) (u := 69) (e := 76) (e2 := 76) (sz := 3) (by_ := 24) (z := .agg #[.int .i64 0, .int .i64 0, .int .u32 0]) gk 1 7 7 (M.map Ln.row) [[.v (.int .i64 s), .v (.int .i64 p), .v (.int .u32 w)]] (d := 48) rfl rfl rfl rfl rfl rfl rfl (by decide) (by kernel_rfl) (by kernel_rfl) (by kernel_rfl) (by kernel_rfl) (by kernel_rfl) rfl rfl (by decide) (by decide) (by simp) (by simp; omega) (by simp) ?_)
      simp [Try.ntmps36, Try.results36, cSl, cp0, cp1, cn0, cn1, cI, cD, cR, AppA, AI.appR, q0, q1, q2, e0, e1, e2, g0', g1', g2', hRl, hk, hRk, lt0, lt1, hG2, hgk, hgk', hgl', n0, n1, hg2, f0, f1, f2, fg, m0, m1, m2, mg, rCapL, rI, irow, irowDec, rLn, Ln.row, lnDec]
      have hlM : M.length = 8 := hm8
      constructor
      · refine wpA_sound hOk fxMix _ _ _ _ (by rw [hRF]; kernel_rfl) ?_
        simp [Try.ntmps36, Try.results36, cSl, cp0, cp1, cn0, cn1, cI, cD, cR]
        have hrw : (M.map Ln.row).tail ++ [[.v (.int .i64 s), .v (.int .i64 p), .v (.int .u32 w)]] = (M.drop 1 ++ [(⟨s, p, w⟩ : Ln)]).map Ln.row := by simp [Ln.row]
        rw [hrw]
        refine bdE ?_ ((q.setLn (k := k) (P := G.length + 1) (o := ⟨0, 8, 8, M.drop 1 ++ [(⟨s, p, w⟩ : Ln)], Nat.le_refl _, by simp; omega⟩) hk ⟨_, hrow⟩ ?_ ?_ ?_ (.inr (by omega))).canon (by omega) (vs := [.v (.int .i64 0)]) rfl)
        · exact bdS_set hbd (by simp only; omega)
        · exact ob_app (ob_self (by simpa using hG2) (show (2 : Nat) ≠ 0 by decide))
        · exact fun i x h1 h2 h3 => ob_app (by rw [ob_ne (fun e => h1 e.symm), ob_ne (fun e => h2 (by simpa using hk) hSne (by rw [hggk]; exact e.symm))]; exact h3)
        · exact ob_of (by rw [List.getElem?_append_right (by simp)]; simp) (by decide)
      · refine wpA_sound hOk fxMix _ _ _ _ (by rw [hRF]; kernel_rfl) ?_
        simp [Try.ntmps36, Try.results36, cSl, cp0, cp1, cn0, cn1, cI, cD, cR]
        have hrw : List.map Ln.row M ++ [[.v (.int .i64 s), .v (.int .i64 p), .v (.int .u32 w)]] = (M ++ [(⟨s, p, w⟩ : Ln)]).map Ln.row := by simp [Ln.row]
        rw [hrw]
        refine bdE ?_ ((q.setLn (k := k) (P := gk) (o := ⟨1, 8, 8, M ++ [(⟨s, p, w⟩ : Ln)], Nat.le_refl _, by simp; omega⟩) hk ⟨_, hrow⟩ ?_ ?_ ?_ (.inl ⟨by simpa using hk, hggk.symm, hSne⟩)).canon (by omega) (vs := [.v (.int .i64 0)]) rfl)
        · exact bdS_set hbd (by simp only; omega)
        · exact ob_app (ob_self (by simpa using hG2) (show (2 : Nat) ≠ 0 by decide))
        · exact fun i x h1 h2 h3 => ob_app (by rw [ob_ne (fun e => h1 e.symm), ob_ne (fun e => h2 (by simpa using hk) hSne (by rw [hggk]; exact e.symm))]; exact h3)
        · exact ob_app (by rw [ob_ne (fun e => hg2 e.symm)]; exact ob_self hgl' (show (3 : Nat) ≠ 0 by decide))
    · have hm8' : ¬ ((L.filter (fun x => !x.at s p)).length : Int) = 8 := by omega
      refine wpA_sound hOk fxMix _ _ _ _ (by rw [hRF]; kernel_rfl) ?_
      generalize hM : L.filter (fun x => !x.at s p) = M at *
      have hm0 : M.length ≤ 4294967295 := by omega
      by_cases hm : M.length < L.length
      · have hm2 : M.length + 1 ≤ L.length := by omega
        simp [Try.ntmps36, Try.results36, cSl, cp0, cp1, cn0, cn1, cI, cD, cR, q0, q1, q2, e0, e1, e2, g0', g1', g2', hRl, hk, hRk, lt0, lt1, hG2, hgk, hgk', hgl', n0, n1, hg2, f0, f1, f2, fg, m0, m1, m2, mg, hpos, hL9, hM, hm8', rCapL, rI, irow, irowDec, rLn, Ln.row, lnDec, hm0, hm2]
        have hrw : List.map Ln.row M ++ [.v (.int .i64 s), .v (.int .i64 p), .v (.int .u32 w)] :: List.drop (M.length + 1) (List.map Ln.row M ++ List.replicate (L.length - M.length) [.v (.int .i64 0), .v (.int .i64 0), .v (.int .u32 0)]) = (M ++ (⟨s, p, w⟩ : Ln) :: List.replicate (L.length - M.length - 1) (⟨0, 0, 0⟩ : Ln)).map Ln.row := by
          have hd : List.drop (M.length + 1) (List.map Ln.row M) = [] := List.drop_eq_nil_of_le (by simp)
          simp [Ln.row, List.drop_append, hd]
        rw [hrw]
        refine bdE ?_ ((q.setLn (k := k) (P := gk) (o := ⟨0, M.length + 1, L.length, M ++ (⟨s, p, w⟩ : Ln) :: List.replicate (L.length - M.length - 1) (⟨0, 0, 0⟩ : Ln), hm2, by simp⟩) hk ⟨_, hrow⟩ ?_ ?_ ?_ (.inl ⟨by simpa using hk, hggk.symm, hSne⟩)).canon (by omega) (vs := [.v (.int .i64 0)]) rfl)
        · exact bdS_set hbd (by simp only; omega)
        · exact ob_app (ob_self (by simpa using hG2) (show (2 : Nat) ≠ 0 by decide))
        · exact fun i x h1 h2 h3 => ob_app (by rw [ob_ne (fun e => h1 e.symm), ob_ne (fun e => h2 (by simpa using hk) hSne (by rw [hggk]; exact e.symm))]; exact h3)
        · exact ob_app (by rw [ob_ne (fun e => hg2 e.symm)]; exact ob_self hgl' (show (3 : Nat) ≠ 0 by decide))
      · have hm2 : ¬ M.length + 1 ≤ L.length := by omega
        have hm3 : L.length - M.length = 0 := by omega
        have hm4 : L.length = M.length := by omega
        simp [Try.ntmps36, Try.results36, cSl, cp0, cp1, cn0, cn1, cI, cD, cR, q0, q1, q2, e0, e1, e2, g0', g1', g2', hRl, hk, hRk, lt0, lt1, hG2, hgk, hgk', hgl', n0, n1, hg2, f0, f1, f2, fg, m0, m1, m2, mg, hpos, hL9, hM, hm8', rCapL, rI, irow, irowDec, rLn, Ln.row, lnDec, hm0, hm2, hm3]
        have hrw : List.map Ln.row M ++ [[.v (.int .i64 s), .v (.int .i64 p), .v (.int .u32 w)]] = (M ++ [(⟨s, p, w⟩ : Ln)]).map Ln.row := by simp [Ln.row]
        rw [hrw]
        refine bdE ?_ ((q.setLn (k := k) (P := G.length + 1) (o := ⟨0, M.length + 1, M.length + 1, M ++ [(⟨s, p, w⟩ : Ln)], Nat.le_refl _, by simp⟩) hk ⟨_, hrow⟩ ?_ ?_ ?_ (.inr (by omega))).canon (by omega) (vs := [.v (.int .i64 0)]) rfl)
        · exact bdS_set hbd (by simp only; omega)
        · exact ob_app (ob_self (by simpa using hG2) (show (2 : Nat) ≠ 0 by decide))
        · exact fun i x h1 h2 h3 => ob_app (by rw [ob_ne (fun e => h1 e.symm), ob_ne (fun e => h2 (by simpa using hk) hSne (by rw [hggk]; exact e.symm))]; exact h3)
        · exact ob_of (by rw [List.getElem?_append_right (by simp)]; simp) (by decide)
end
section
set_option maxHeartbeats 8000000
attribute [local simp] Ln.eta Ln.cold Ln.mapM Ln.mapMc Ln.view Ln.viewc Ln.hotR Ln.ren Ln.renc Ln.low Ln.tau Ln.tauc Ln.bare Ln.flat Ln.flat1 Ln.mapMt Ln.mapMd Ln.coldt Ln.coldd Ln.hotRt Ln.hotRd
attribute [local simp] Od.eta Od.cold Od.mapM Od.mapMc Od.view Od.viewc Od.hotR Od.ren Od.renc Od.low Od.tau Od.tauc Od.bare Od.flat Od.flat1 Od.mapMt Od.mapMd Od.coldt Od.coldd Od.hotRt Od.hotRd
attribute [local simp] Cpu.eta Cpu.dec_row Cpu.dec_hrow Cpu.cold Cpu.hcold Cpu.mapM Cpu.mapMc Cpu.hmapM Cpu.hmapMc Cpu.view Cpu.viewc Cpu.hview Cpu.hviewc Cpu.hotR Cpu.ren Cpu.renc Cpu.low Cpu.hlow
theorem serve_own : InlR Try.prog 37 (own0R (argG (cSl rCpu) fun l => argG (cInt .i64) fun cpu => finG (if l.length ≤ 1048576 then some (cpV 2) else none))) := by
  refine ownR_2 Try.func37 rfl ?_
  rintro l cpu r hr
  by_cases hc : l.length ≤ 1048576
  case neg => rw [if_neg hc] at hr; cases hr
  rw [if_pos hc] at hr
  simp only [Option.some.injEq] at hr
  subst hr
  refine bodyR_split (.s (.s (.s .z))) ((((noOrc_ok.withP tlChk_pure).withIF (cpy_inl md1) frameN_loc).withI forget_inl).withIF odDel delete_loc) fxMix (by kernel_rfl) (by simp [Try.ntmps37]) ?_
  intro C cP cI cN cD cF cA cR cL
  have cp0 := orcP tlChk_pure (C := C) (by rw [cP]; rfl)
  have cn0 := orcI (cpy_inl md1) (C := C) (by rw [cN]; rfl)
  have cn1 := orcI forget_inl (C := C) (by rw [cN]; rfl)
  have cn2 := orcI odDel (C := C) (by rw [cN]; rfl)
  replace cI := fun g => congrFun cI g
  simp only [Orc.withP, Orc.withI, Orc.withF, Orc.withD, Orc.withA, Orc.withR, Orc.withC, noOrc] at cI
  replace cR : C.rd = fun _ => none := cR
  replace cD : C.dyn = fun _ => [] := cD
  clear cP cN cF cA
  intro hOk hRF
  by_cases h0 : tlChk l cpu = 0
  case neg =>
    simp [Try.ntmps37, Try.results37, cSl, cp0, cn0, cn1, cn2, cI, cD, cR, splitC, wpL, rCpu, cpuDec, Cpu.row, rLn, lnDec, rOd, odDec, h0]
    exact bdE bdS_nil (cpus_err (vs := [.bool false, .int .i64 (tlChk l cpu)]) rfl)
  obtain ⟨g0, g1, g2⟩ := tlChk_iff.1 h0
  obtain ⟨k, rfl⟩ := Int.eq_ofNat_of_zero_le g1
  have hk : k < l.length := by omega
  obtain ⟨l1, l2, l3⟩ := tlCheck_iff.1 g0
  have hcp : (∀ c ∈ l, c.lines.length ≤ 8 ∧ c.orders.length ≤ 4) = True := eq_true fun c hc => cpuE_len (l3 c hc)
  have hbd : bdS (l.map olOf) := bdS_ol hc fun c h => (of_eq_true hcp c h).1
  obtain ⟨g, h, R, G, q, hG⟩ : ∃ g h R G, SI l.length 0 (l.map olOf) (l.map odOf) g h R G ∧ G = [] ++ some (2, shR md1 0 1 l) :: shT md1 0 l := ⟨_, _, _, _, SI.of_cpy [], rfl⟩
  simp [Try.ntmps37, Try.results37, cSl, cp0, cn0, cn1, cn2, cI, cD, cR, splitC, wpL, rCpu, cpuDec, Cpu.row, rLn, lnDec, rOd, odDec, h0, l1, l2, hcp, shR_tau, shT_tau, shR_new, shT_new]
  refine AWp.heapE (show _ = G by rw [hG]; rfl) ?_
  refine wpA_sound hOk fxMix _ _ _ _ (by rw [hRF]; kernel_rfl) ?_
  obtain ⟨hL8, hO4⟩ := cpuE_len (l3 l[k] (List.getElem_mem hk))
  have hS : (l.map olOf)[k]'(by simpa using hk) = olOf l[k] := by simp
  have hT : (l.map odOf)[k]'(by simpa using hk) = odOf l[k] := by simp
  have hrow := q.row k (by simpa using hk) (by simpa using hk)
  have q0 := obj_get q.oM
  have g0' := (List.getElem?_eq_some_iff.1 q0).2
  have hG0 := ob_lt q.oM
  have hRl := q.lR
  have hkR : k < R.length := by omega
  have hln := q.ln k (by simpa using hk)
  have hod := q.od k (by simpa using hk)
  have hgl := q.gl (i := k) (by simpa using hk)
  have hhl := q.hl (i := k) (by simpa using hk)
  have hgh := q.gh k k (by simpa using hk) (by simpa using hk)
  rw [hS] at hrow hln hgl hgh
  rw [hT] at hrow hod hhl hgh
  have hRk : R[k] = [olA (g k) (olOf l[k]), odU (h k) (odOf l[k])] := by
    rw [List.getElem?_eq_getElem hkR] at hrow
    exact Option.some.inj hrow
  by_cases eO : l[k].orders = []
  · have hO : odOf l[k] = none := by simp [odOf, eO]
    rw [hO] at hRk
    simp [Try.ntmps37, Try.results37, cSl, cp0, cn0, cn1, cn2, cI, cD, cR, q0, g0', hRl, hk, hRk, hG0, rOd, odDec, Od.row, rLn, lnDec, Ln.row, odU]
    exact bdE hbd (q.canon (by omega) (vs := [.v (.bool false), .v (.int .i64 0)]) rfl)
  · have hO : odOf l[k] = some l[k].orders := by simp [odOf, eO]
    obtain ⟨hho, hh0⟩ := hod _ hO
    have hhl' := hhl (by rw [hO]; simp)
    have hTne : (l.map odOf)[k]'(by simpa using hk) ≠ none := by rw [hT, hO]; simp
    rw [hO] at hRk hrow
    simp only [odU] at hRk hrow
    have hhg := obj_get hho
    have hhg' := (List.getElem?_eq_some_iff.1 hhg).2
    clear hod hhl hT
    generalize hhk : h k = hk1 at *
    generalize hOO : l[k].orders = O at *
    have hOp : 0 < O.length := List.length_pos_iff.2 eO
    have hO5 : O.length ≤ 1048576 := by omega
    have hOi : ¬ (O.length : Int) = 0 := by omega
    have hOn : ¬ O.length = 0 := by omega
    have p1 : ∀ y, (G.set 0 y)[hk1]? = some (some (2, O.map Od.row)) := fun y => by rw [List.getElem?_set_ne (fun e => hh0 e.symm)]; exact hhg
    have p2 : ∀ y (hh : hk1 < (G.set 0 y).length), (G.set 0 y)[hk1]'hh = some (2, O.map Od.row) := fun y hh => by rw [List.getElem_set_ne (fun e => hh0 e.symm)]; exact hhg'
    have p3 : ∀ y z, ((G.set 0 y).set hk1 z)[0]? = some y := fun y z => by rw [List.getElem?_set_ne hh0, List.getElem?_set_self hG0]
    have p4 : ∀ y z (hh : 0 < ((G.set 0 y).set hk1 z).length), ((G.set 0 y).set hk1 z)[0]'hh = y := fun y z hh => by rw [List.getElem_set_ne hh0, List.getElem_set_self]
    by_cases eL : l[k].lines = []
    · have hLn : olOf l[k] = none := by simp [olOf, eL]
      rw [hLn] at hRk hrow
      simp only [olA] at hRk hrow
      simp [Try.ntmps37, Try.results37, cSl, cp0, cn0, cn1, cn2, cI, cD, cR, q0, g0', hRl, hk, hRk, hG0, rOd, odDec, Od.row, rLn, lnDec, Ln.row, hhg, hhg', hhl', hh0, hOp, hO5, hOi, hOn, p1, p2, p3, p4, deleteI]
      have hSk : (l.map olOf)[k]'(by simpa using hk) = none := by rw [hS, hLn]
      refine bdE hbd (q.canonO (by omega) (vs := [.v (.bool true), .v (.int .i64 0)]) rfl hk (b := .osl hk1 2 0 (O.length - 1) (O.length - 1)) ?_ fun j hj o ho => ?_)
      · rw [hSk]
        exact ob_self (by simpa using hG0) (show (2 : Nat) ≠ 0 by decide)
      · have j1 := (q.ln j hj o ho).2
        have j2 := q.gh j k hj (by simpa using hk) (by rw [ho]; simp) hTne
        rw [hhk] at j2
        rw [ob_ne (fun e => j1 e.symm), ob_ne (fun e => j2 e.symm), ob_ne (fun e => j1 e.symm)]
    · obtain ⟨o, hLn⟩ : ∃ o, olOf l[k] = some o := by simp [olOf, eL]
      have hO2 := hLn
      unfold olOf at hO2
      rw [if_neg eL] at hO2
      simp only [Option.some.injEq] at hO2
      obtain ⟨hgo, hg0⟩ := hln o hLn
      have hgl' := hgl (by rw [hLn]; simp)
      have hSne : (l.map olOf)[k]'(by simpa using hk) ≠ none := by rw [hS, hLn]; simp
      have hgh' : g k ≠ hk1 := by
        have := q.gh k k (by simpa using hk) (by simpa using hk) hSne hTne
        rwa [hhk] at this
      rw [hLn] at hRk hrow
      subst hO2
      simp only [olA] at hRk hrow
      simp only at hgo
      have hgk := obj_get hgo
      have hgk' := (List.getElem?_eq_some_iff.1 hgk).2
      clear hLn hln hgl hS hgh
      generalize hggk : g k = gk at *
      generalize hL : l[k].lines = L at *
      have hpos : 0 < L.length := List.length_pos_iff.2 eL
      have hL9 : L.length ≤ 1048576 := by omega
      have hzz : hk1 ≠ gk := fun e => hgh' e.symm
      have a1 : ∀ y, (G.set gk y)[0]? = some (some (2, R)) := fun y => by rw [List.getElem?_set_ne hg0]; exact q0
      have a2 : ∀ y (hh : 0 < (G.set gk y).length), (G.set gk y)[0]'hh = some (2, R) := fun y hh => by rw [List.getElem_set_ne hg0]; exact g0'
      have a3 : ∀ y, (G.set gk y)[hk1]? = some (some (2, O.map Od.row)) := fun y => by rw [List.getElem?_set_ne hgh']; exact hhg
      have a4 : ∀ y (hh : hk1 < (G.set gk y).length), (G.set gk y)[hk1]'hh = some (2, O.map Od.row) := fun y hh => by rw [List.getElem_set_ne hgh']; exact hhg'
      have a5 : ∀ y z, ((G.set gk y).set 0 z)[hk1]? = some (some (2, O.map Od.row)) := fun y z => by rw [List.getElem?_set_ne (fun e => hh0 e.symm), List.getElem?_set_ne hgh']; exact hhg
      have a6 : ∀ y z (hh : hk1 < ((G.set gk y).set 0 z).length), ((G.set gk y).set 0 z)[hk1]'hh = some (2, O.map Od.row) := fun y z hh => by rw [List.getElem_set_ne (fun e => hh0 e.symm), List.getElem_set_ne hgh']; exact hhg'
      have a7 : ∀ y z x, (((G.set gk y).set 0 z).set hk1 x)[0]? = some z := fun y z x => by rw [List.getElem?_set_ne hh0, List.getElem?_set_self (by simpa using hG0)]
      have a8 : ∀ y z x (hh : 0 < (((G.set gk y).set 0 z).set hk1 x).length), (((G.set gk y).set 0 z).set hk1 x)[0]'hh = z := fun y z x hh => by rw [List.getElem_set_ne hh0, List.getElem_set_self]
      simp [Try.ntmps37, Try.results37, cSl, cp0, cn0, cn1, cn2, cI, cD, cR, q0, g0', hRl, hk, hRk, hG0, rOd, odDec, Od.row, rLn, lnDec, Ln.row, hhg, hhg', hhl', hh0, hOp, hO5, hOi, hOn, hgk, hgk', hgl', hg0, hgh', hzz, hpos, hL9, a1, a2, a3, a4, a5, a6, a7, a8, zLn, deleteI]
      have hrw : List.map Ln.row (forg O[0] L) ++ List.replicate (L.length - (forg O[0] L).length) [.v (.int .i64 0), .v (.int .i64 0), .v (.int .u32 0)] = (forg O[0] L ++ List.replicate (L.length - (forg O[0] L).length) (⟨0, 0, 0⟩ : Ln)).map Ln.row := by simp [Ln.row]
      rw [hrw]
      have hFl : (forg O[0] L).length ≤ L.length := List.length_filter_le _ _
      generalize forg O[0] L = F at *
      have q1 := q.setLn (k := k) (P := gk) (o := ⟨0, F.length, L.length, F ++ List.replicate (L.length - F.length) (⟨0, 0, 0⟩ : Ln), hFl, by simp⟩) (b := .osl hk1 2 0 O.length O.length) (G' := (G.set gk (some (3, (F ++ List.replicate (L.length - F.length) (⟨0, 0, 0⟩ : Ln)).map Ln.row))).set 0 (some (2, R.set k [.osl gk 3 0 F.length L.length, .osl hk1 2 0 O.length O.length]))) hk ⟨_, hrow⟩ (ob_self (by simpa using hG0) (show (2 : Nat) ≠ 0 by decide))
        (fun i x h1 h2 h3 => by rw [ob_ne (fun e => h1 e.symm), ob_ne (fun e => h2 (by simpa using hk) hSne (by rw [hggk]; exact e.symm))]; exact h3) (by rw [ob_ne (fun e => hg0 e.symm)]; exact ob_self hgl' (show (3 : Nat) ≠ 0 by decide)) (.inl ⟨by simpa using hk, hggk.symm, hSne⟩)
      refine bdE (bdS_set hbd (by simp only; omega)) (q1.canonO (by omega) (vs := [.v (.bool true), .v (.int .i64 0)]) rfl hk (b := .osl hk1 2 0 (O.length - 1) (O.length - 1)) ?_ fun j hj o ho => ?_)
      · rw [List.set_set]
        simp only [List.getElem_set_self, if_true, olA]
        exact ob_self (by simpa using hG0) (show (2 : Nat) ≠ 0 by decide)
      · have j1 := (q1.ln j hj o ho).2
        have j2 := q1.gh j k hj (by simpa using hk) (by rw [ho]; simp) hTne
        rw [hhk] at j2
        rw [ob_ne (fun e => j1 e.symm), ob_ne (fun e => j2 e.symm)]
end
section
set_option maxHeartbeats 8000000
attribute [local simp] Ln.eta Ln.cold Ln.mapM Ln.mapMc Ln.view Ln.viewc Ln.hotR Ln.ren Ln.renc Ln.low Ln.tau Ln.tauc Ln.bare Ln.flat Ln.flat1 Ln.mapMt Ln.mapMd Ln.coldt Ln.coldd Ln.hotRt Ln.hotRd
attribute [local simp] Od.eta Od.cold Od.mapM Od.mapMc Od.view Od.viewc Od.hotR Od.ren Od.renc Od.low Od.tau Od.tauc Od.bare Od.flat Od.flat1 Od.mapMt Od.mapMd Od.coldt Od.coldd Od.hotRt Od.hotRd
attribute [local simp] Cpu.eta Cpu.dec_row Cpu.dec_hrow Cpu.cold Cpu.hcold Cpu.mapM Cpu.mapMc Cpu.hmapM Cpu.hmapMc Cpu.view Cpu.viewc Cpu.hview Cpu.hviewc Cpu.hotR Cpu.ren Cpu.renc Cpu.low Cpu.hlow
structure ShI where
  S : List (Option OL)
  T : List (Option (List Od))
  g : Nat → Nat
  h : Nat → Nat
  R : List Row
  G : Heap
def ShI.ok (l : List Cpu) (o : Od) (k : Nat) (a : ShI) : Prop := SI l.length 1 a.S a.T a.g a.h a.R a.G ∧ a.G[0]? = some (some (2, [[.v (.int .i64 o.space), .v (.int .i64 o.page)]])) ∧
  (∀ (j : Nat) (hj : j < l.length), k ≤ j → a.S[j]? = some (olOf l[j]) ∧ a.T[j]? = some (odOf l[j])) ∧ (∀ j, a.h j ≠ 0) ∧ bdS a.S
theorem shoot_own : InlR Try.prog 35 (own0R (argG (cSl rCpu) fun l => argG (cInt .i64) fun b => argG (cAgg rOd) fun o => finG (if l.length ≤ 1048576 then some (cpV 1) else none))) := by
  refine ownR_3 Try.func35 rfl ?_
  rintro l b o r hr
  by_cases hc : l.length ≤ 1048576
  case neg => rw [if_neg hc] at hr; cases hr
  rw [if_pos hc] at hr
  simp only [Option.some.injEq] at hr
  subst hr
  refine bodyR_split (.s (.s (.s (.s .z)))) (((((noOrc_ok.withP tlChk_pure).withP tlRight_pure).withIF (cpy_inl md1) frameN_loc).withI forget_inl).withD (fun i => if i = 10 then [(6,8)] else [])) fxMix (by kernel_rfl) (by simp [Try.ntmps35]) ?_
  intro C cP cI cN cD cF cA cR cL
  have cp0 := orcP tlChk_pure (C := C) (by rw [cP]; rfl)
  have cp1 := orcP tlRight_pure (C := C) (by rw [cP]; rfl)
  have cn0 := orcI (cpy_inl md1) (C := C) (by rw [cN]; rfl)
  have cn1 := orcI forget_inl (C := C) (by rw [cN]; rfl)
  replace cI := fun g => congrFun cI g
  simp only [Orc.withP, Orc.withI, Orc.withF, Orc.withD, Orc.withA, Orc.withR, Orc.withC, noOrc] at cI
  replace cR : C.rd = fun _ => none := cR
  replace cD : C.dyn = fun i => if i = 10 then [(6,8)] else [] := cD
  replace cF := fun g => congrFun cF g
  simp only [Orc.withP, Orc.withI, Orc.withF, Orc.withD, Orc.withA, Orc.withR, Orc.withC, noOrc] at cF
  replace cA : C.alt = fun _ => [] := cA
  clear cP cN
  intro hOk hRF
  have hmx : (if 0 < o.page then o.page else 0) = max o.page 0 := by omega
  have hmx2 : (if o.page > 0 then o.page else 0) = max o.page 0 := by omega
  have hmx3 : (if o.page < 0 then 0 else o.page) = max o.page 0 := by omega
  have hmx4 : (if 0 > o.page then 0 else o.page) = max o.page 0 := by omega
  by_cases h0 : tlChk l b = 0
  case neg =>
    simp [Try.ntmps35, Try.results35, cSl, cp0, cp1, cn0, cn1, cI, cD, cR, cF, cA, splitC, wpL, rCpu, cpuDec, Cpu.row, rLn, lnDec, rOd, odDec, Od.row, h0]
    exact bdE bdS_nil (cpus_err (vs := [.int .i64 (tlChk l b)]) rfl)
  by_cases c1 : okSP o.space (max o.page 0) = true
  case neg =>
    simp only [Bool.not_eq_true] at c1
    simp [Try.ntmps35, Try.results35, cSl, cp0, cp1, cn0, cn1, cI, cD, cR, cF, cA, splitC, wpL, rCpu, cpuDec, Cpu.row, rLn, lnDec, rOd, odDec, Od.row, h0, c1, hmx, hmx2, hmx3, hmx4]
    exact bdE bdS_nil (cpus_err (vs := [.int .i64 1]) rfl)
  by_cases c2 : o.page < -1
  · simp [Try.ntmps35, Try.results35, cSl, cp0, cp1, cn0, cn1, cI, cD, cR, cF, cA, splitC, wpL, rCpu, cpuDec, Cpu.row, rLn, lnDec, rOd, odDec, Od.row, h0, c1, c2, hmx, hmx2, hmx3, hmx4]
    exact bdE bdS_nil (cpus_err (vs := [.int .i64 1]) rfl)
  obtain ⟨g0, g1, g2⟩ := tlChk_iff.1 h0
  obtain ⟨b, rfl⟩ := Int.eq_ofNat_of_zero_le g1
  have hbl : b < l.length := by omega
  obtain ⟨l1, l2, l3⟩ := tlCheck_iff.1 g0
  have hcp : (∀ c ∈ l, c.lines.length ≤ 8 ∧ c.orders.length ≤ 4) = True := eq_true fun c hc => cpuE_len (l3 c hc)
  have hbd : bdS (l.map olOf) := bdS_ol hc fun c h => (of_eq_true hcp c h).1
  obtain ⟨g, h, R, G, q, hz, hG⟩ : ∃ g h R G, SI l.length 1 (l.map olOf) (l.map odOf) g h R G ∧ (∀ j, h j ≠ 0) ∧ G = [some (2, [[.v (.int .i64 o.space), .v (.int .i64 o.page)]])] ++ some (2, shR md1 0 2 l) :: shT md1 0 l := ⟨_, _, _, _, SI.of_cpy [some (2, [[.v (.int .i64 o.space), .v (.int .i64 o.page)]])], fun j => by simp only [List.length_cons, List.length_nil]; omega, rfl⟩
  simp [Try.ntmps35, Try.results35, cSl, cp0, cp1, cn0, cn1, cI, cD, cR, cF, cA, splitC, wpL, rCpu, cpuDec, Cpu.row, rLn, lnDec, rOd, odDec, Od.row, h0, c1, c2, hmx, hmx2, hmx3, hmx4, l1, l2, hcp, shR_tau, shT_tau, shR_new, shT_new]
  refine AWp.heapE (show _ = G by rw [hG]; simp) ?_
  refine wpA_sound hOk fxMix _ _ _ _ (by rw [hRF]; kernel_rfl) ?_
  have hok : ShI.ok l o 0 ⟨l.map olOf, l.map odOf, g, h, R, G⟩ := ⟨q, by rw [hG]; rfl, fun j hj _ => ⟨by simp [hj], by simp [hj]⟩, hz, hbd⟩
  simp [Try.ntmps35, Try.results35, cSl, cp0, cp1, cn0, cn1, cI, cD, cR, cF, cA]
  refine loop_forE l.length (fun k (a : ShI) => ([(0, .osl 1 2 0 l.length l.length), (1, .v (.int .i64 b)), (5, .ptr 0 2 0 0), (33, .v (.int .i64 l.length)), (34, .v (.int .i64 k))], a.G)) (fun k a => ShI.ok l o k a) ⟨l.map olOf, l.map odOf, g, h, R, G⟩ (by rintro k _ hk _; omega) hok (Ent.env (by simp)) ?_ ?_
  · rintro k ⟨S, T, g, h, R, G⟩ hk ⟨q, q0, hr, hz, hbS⟩ hw
    simp only at q q0 hr hz hbS
    have hSl : k < S.length := by rw [q.lS]; exact hk
    have hTl : k < T.length := by rw [q.lT]; exact hk
    obtain ⟨hS, hT⟩ := hr k hk (Nat.le_refl _)
    rw [List.getElem?_eq_getElem hSl] at hS
    rw [List.getElem?_eq_getElem hTl] at hT
    simp only [Option.some.injEq] at hS hT
    obtain ⟨hL8, hO4⟩ := cpuE_len (l3 l[k] (List.getElem_mem hk))
    have hrow := q.row k hSl hTl
    have q1 := obj_get q.oM
    have g0' := (List.getElem?_eq_some_iff.1 q0).2
    have g1' := (List.getElem?_eq_some_iff.1 q1).2
    have lt1 := ob_lt q.oM
    have lt0 : 0 < G.length := by omega
    have hRl := q.lR
    have hkR : k < R.length := by omega
    have hln := q.ln k hSl
    have hod := q.od k hTl
    have hgl := q.gl hSl
    have hhl := q.hl hTl
    rw [hS] at hrow hln hgl
    rw [hT] at hrow hod hhl
    have hRk : R[k] = [olA (g k) (olOf l[k]), odU (h k) (odOf l[k])] := by
      rw [List.getElem?_eq_getElem hkR] at hrow
      exact Option.some.inj hrow
    have hnext : ∀ (S' : List (Option OL)) (T' : List (Option (List Od))), (∀ j, j ≠ k → S'[j]? = S[j]?) → (∀ j, j ≠ k → T'[j]? = T[j]?) → ∀ (j : Nat) (hj : j < l.length), k + 1 ≤ j → S'[j]? = some (olOf l[j]) ∧ T'[j]? = some (odOf l[j]) := by
      intro S' T' u1 u2 j hj hkj
      rw [u1 j (by omega), u2 j (by omega)]
      exact hr j hj (by omega)
    have hz2 : ∀ j, (fun i => if i = k then G.length + 1 else h i) j ≠ 0 := fun j => by
      by_cases ej : j = k
      · simp [ej]
      · simpa [ej] using hz j
    by_cases e : k = b
    · subst e
      by_cases eL : l[k].lines = []
      · have hO : olOf l[k] = none := by simp [olOf, eL]
        rw [hO] at hRk
        simp only [olA] at hRk
        have hset : R.set k [.esl, odU (h k) (odOf l[k])] = R := by rw [← hRk, List.set_getElem_self]
        have hGs : G.set 1 (some (2, R)) = G := by rw [← g1', List.set_getElem_self]
        simp [Try.ntmps35, Try.results35, cSl, cp0, cp1, cn0, cn1, cI, cD, cR, cF, cA, hw, hk, q0, q1, g0', g1', lt0, lt1, hRl, hRk, rOd, odDec, Od.row, rLn, lnDec, Ln.row, zLn, hset, hGs]
        exact ⟨⟨S, T, g, h, R, G⟩, ⟨q, q0, hnext S T (fun _ _ => rfl) (fun _ _ => rfl), hz, hbS⟩, Ent.env (by simp)⟩
      · obtain ⟨x, hO⟩ : ∃ x, olOf l[k] = some x := by simp [olOf, eL]
        have hO2 := hO
        unfold olOf at hO2
        rw [if_neg eL] at hO2
        simp only [Option.some.injEq] at hO2
        obtain ⟨hgo, hg1⟩ := hln x hO
        have hgl' := hgl (by rw [hO]; simp)
        have hSne : S[k] ≠ none := by rw [hS, hO]; simp
        rw [hO] at hRk hrow
        subst hO2
        simp only [olA] at hRk hrow
        simp only at hgo
        have hgk := obj_get hgo
        have hgk' := (List.getElem?_eq_some_iff.1 hgk).2
        clear hO hln hgl hS
        generalize hggk : g k = gk at *
        generalize hL : l[k].lines = L at *
        have hpos : 0 < L.length := List.length_pos_iff.2 eL
        have hL9 : L.length ≤ 1048576 := by omega
        have n0 : gk ≠ 0 := by rintro rfl; rw [q0] at hgk; cases hgk
        have a1 : ∀ y, (G.set gk y)[1]? = some (some (2, R)) := fun y => by rw [List.getElem?_set_ne hg1]; exact q1
        have a2 : ∀ y (hh : 1 < (G.set gk y).length), (G.set gk y)[1]'hh = some (2, R) := fun y hh => by rw [List.getElem_set_ne hg1]; exact g1'
        simp [Try.ntmps35, Try.results35, cSl, cp0, cp1, cn0, cn1, cI, cD, cR, cF, cA, hw, hk, q0, q1, g0', g1', lt0, lt1, hRl, hRk, rOd, odDec, Od.row, rLn, lnDec, Ln.row, zLn, hgk, hgk', hgl', hg1, n0, hpos, hL9, a1, a2]
        have hrw : List.map Ln.row (forg o L) ++ List.replicate (L.length - (forg o L).length) [.v (.int .i64 0), .v (.int .i64 0), .v (.int .u32 0)] = (forg o L ++ List.replicate (L.length - (forg o L).length) (⟨0, 0, 0⟩ : Ln)).map Ln.row := by simp [Ln.row]
        have hFl : (forg o L).length ≤ L.length := List.length_filter_le _ _
        rw [hrw]
        refine ⟨⟨_, _, _, _, _, _⟩, ⟨q.setLn (k := k) (P := gk) (o := ⟨0, (forg o L).length, L.length, forg o L ++ List.replicate (L.length - (forg o L).length) (⟨0, 0, 0⟩ : Ln), hFl, by simp⟩) hk ⟨_, hrow⟩ ?_ ?_ ?_ (.inl ⟨hSl, hggk.symm, hSne⟩), ?_, hnext _ _ (fun j hj => by rw [List.getElem?_set_ne (fun x => hj x.symm)]) (fun _ _ => rfl), hz, bdS_set hbS (by simp only; omega)⟩, Ent.env (by simp)⟩
        · exact ob_self (by simpa using lt1) (show (2 : Nat) ≠ 0 by decide)
        · exact fun i x h1 h2 h3 => by rw [ob_ne (fun e => h1 e.symm), ob_ne (fun e => h2 hSl hSne (by rw [hggk]; exact e.symm))]; exact h3
        · rw [ob_ne (fun e => hg1 e.symm)]; exact ob_self hgl' (show (3 : Nat) ≠ 0 by decide)
        · simp only
          rw [List.getElem?_set_ne (by decide), List.getElem?_set_ne n0]; exact q0
    · have ei : ¬ (k : Int) = b := by omega
      by_cases e4 : l[k].orders.length = 4
      · have e4' : (l[k].orders.length : Int) = 4 := by omega
        have eO : l[k].orders ≠ [] := by intro hh; rw [hh] at e4; simp at e4
        have hO : odOf l[k] = some l[k].orders := by simp [odOf, eO]
        rw [hO] at hRk
        simp only [odU] at hRk
        simp [Try.ntmps35, Try.results35, cSl, cp0, cp1, cn0, cn1, cI, cD, cR, cF, cA, hw, hk, q0, q1, g0', g1', lt0, lt1, hRl, hRk, rOd, odDec, Od.row, rLn, lnDec, Ln.row, zLn, e, ei, e4, e4']
        exact bdE bdS_nil (cpus_err (vs := [.int .i64 9]) rfl)
      · have e4' : ¬ (l[k].orders.length : Int) = 4 := by omega
        by_cases eO : l[k].orders = []
        · have hO : odOf l[k] = none := by simp [odOf, eO]
          rw [hO] at hRk
          simp only [odU] at hRk
          have e0 : ∀ X : Heap, (G ++ X)[0]? = some (some (2, [[.v (.int .i64 o.space), .v (.int .i64 o.page)]])) := fun X => by rw [List.getElem?_append_left (by omega)]; exact q0
          have e1 : ∀ X : Heap, (G ++ X)[1]? = some (some (2, R)) := fun X => by rw [List.getElem?_append_left lt1]; exact q1
          simp [Try.ntmps35, Try.results35, cSl, cp0, cp1, cn0, cn1, cI, cD, cR, cF, cA, hw, hk, q0, q1, g0', g1', lt0, lt1, hRl, hRk, rOd, odDec, Od.row, rLn, lnDec, Ln.row, zLn, e, ei, e4, e4', e0, e1, eO]
          have hrow' := hrow
          rw [hO] at hrow'
          simp only [odU] at hrow'
          refine ⟨⟨_, _, _, _, _, _⟩, ⟨q.setOd (k := k) (P := G.length + 1) (o := [o]) hk ⟨_, hrow'⟩ ?_ ?_ ?_ (.inr (by omega)), ?_, hnext _ _ (fun _ _ => rfl) (fun j hj => by rw [List.getElem?_set_ne (fun x => hj x.symm)]), hz2, hbS⟩, Ent.env (by simp)⟩
          · exact ob_app (ob_self (by simpa using lt1) (show (2 : Nat) ≠ 0 by decide))
          · exact fun i x h1 h2 h3 => ob_app (by rw [ob_ne (fun e => h1 e.symm)]; exact h3)
          · exact ob_of (by rw [List.getElem?_append_right (by simp)]; simp [Od.row]) (by decide)
          · simp only
            rw [List.getElem?_append_left (by simp; omega), List.getElem?_set_ne (by decide)]; exact q0
        · have hO : odOf l[k] = some l[k].orders := by simp [odOf, eO]
          obtain ⟨hho, hh1⟩ := hod _ hO
          have hhl' := hhl (by rw [hO]; simp)
          have hTne : T[k] ≠ none := by rw [hT, hO]; simp
          rw [hO] at hRk hrow
          simp only [odU] at hRk hrow
          have hhg := obj_get hho
          have hhg' := (List.getElem?_eq_some_iff.1 hhg).2
          clear hod hhl hT hO
          generalize hhk : h k = hk1 at *
          generalize hOO : l[k].orders = O at *
          have hO32 : O.length ≤ 4294967295 := by omega
          have hO1 : ¬ O.length + 1 ≤ O.length := by omega
          have n0 : hk1 ≠ 0 := by rw [← hhk]; exact hz k
          have e0 : ∀ X : Heap, (G ++ X)[0]? = some (some (2, [[.v (.int .i64 o.space), .v (.int .i64 o.page)]])) := fun X => by rw [List.getElem?_append_left (by omega)]; exact q0
          have e1 : ∀ X : Heap, (G ++ X)[1]? = some (some (2, R)) := fun X => by rw [List.getElem?_append_left lt1]; exact q1
          have e2 : ∀ X : Heap, (G ++ X)[hk1]? = some (some (2, O.map Od.row)) := fun X => by rw [List.getElem?_append_left hhl']; exact hhg
          have e3 : ∀ y X, (G.set hk1 y ++ X)[1]? = some (some (2, R)) := fun y X => by rw [List.getElem?_append_left (by simpa using lt1), List.getElem?_set_ne hh1]; exact q1
          simp [Try.ntmps35, Try.results35, cSl, cp0, cp1, cn0, cn1, cI, cD, cR, cF, cA, hw, hk, q0, q1, g0', g1', lt0, lt1, hRl, hRk, rOd, odDec, Od.row, rLn, lnDec, Ln.row, zLn, e, ei, e4, e4', e0, e1, e2, e3, hhg, hhg', hhl', hh1, hO32, hO1]
          have hrw : List.map Od.row O ++ [[.v (.int .i64 o.space), .v (.int .i64 o.page)]] = (O ++ [o]).map Od.row := by simp [Od.row]
          rw [hrw]
          refine ⟨⟨_, _, _, _, _, _⟩, ⟨q.setOd (k := k) (P := G.length + 1) (o := O ++ [o]) hk ⟨_, hrow⟩ ?_ ?_ ?_ (.inr (by omega)), ?_, hnext _ _ (fun _ _ => rfl) (fun j hj => by rw [List.getElem?_set_ne (fun x => hj x.symm)]), hz2, hbS⟩, Ent.env (by simp)⟩
          · rw [List.length_append]; exact ob_app (ob_self (by simpa using lt1) (show (2 : Nat) ≠ 0 by decide))
          · exact fun i x h1 h2 h3 => ob_app (by rw [ob_ne (fun e => h1 e.symm), ob_ne (fun e => h2 hTl hTne (by rw [hhk]; exact e.symm))]; exact h3)
          · exact ob_of (by rw [List.getElem?_append_right (by simp)]; simp) (by decide)
          · simp only
            rw [List.getElem?_append_left (by simp; omega), List.getElem?_set_ne (by decide), List.getElem?_set_ne n0]; exact q0
  · rintro ⟨S, T, g, h, R, G⟩ ⟨q, q0, hr, hz, hbS⟩
    simp only at q q0 hr hz hbS
    simp [Try.ntmps35, Try.results35, cSl, cp0, cp1, cn0, cn1, cI, cD, cR, cF, cA]
    exact bdE hbS (q.canon (by omega) (vs := [.v (.int .i64 0)]) rfl)
end
section
attribute [local simp] Ln.eta Ln.cold Ln.mapM Ln.mapMc Ln.view Ln.viewc Ln.hotR Ln.ren Ln.renc Ln.low Ln.tau Ln.tauc Ln.bare Ln.flat Ln.flat1 Ln.mapMt Ln.mapMd Ln.coldt Ln.coldd Ln.hotRt Ln.hotRd
attribute [local simp] Od.eta Od.cold Od.mapM Od.mapMc Od.view Od.viewc Od.hotR Od.ren Od.renc Od.low Od.tau Od.tauc Od.bare Od.flat Od.flat1 Od.mapMt Od.mapMd Od.coldt Od.coldd Od.hotRt Od.hotRd
attribute [local simp] Cpu.eta Cpu.dec_row Cpu.dec_hrow Cpu.cold Cpu.hcold Cpu.mapM Cpu.mapMc Cpu.hmapM Cpu.hmapMc Cpu.view Cpu.viewc Cpu.hview Cpu.hviewc Cpu.hotR Cpu.ren Cpu.renc Cpu.low Cpu.hlow
theorem olA_tau {n c : Nat} {o : Option OL} : tau [] n (olA c o) = olA (n + c) o := by
  cases o with
  | none => rfl
  | some o => simp [olA, tau, tauI]
theorem cpR1_tau {n : Nat} {g : Nat → Nat} {S : List (Option OL)} : List.map (List.map (tau [] n)) (cpR1 g S) = cpR1 (fun i => n + g i) S := by
  apply List.ext_getElem?
  intro i
  rw [List.getElem?_map]
  by_cases hi : i < S.length
  · rw [cpR1_get hi, cpR1_get hi]
    simp only [Option.map_some, List.map_cons, List.map_nil, olA_tau, tau]
  · rw [List.getElem?_eq_none (by rw [cpR1_len]; omega), List.getElem?_eq_none (by rw [cpR1_len]; omega)]; rfl
def cpA (n : Nat) (S : List (Option OL)) : AVal := if S = [] then .esl else .osl n 2 0 S.length S.length
def cpG (n : Nat) (S : List (Option OL)) : Heap := (if S = [] then none else some (2, cpR1 (fun i => n + (i + 1)) S)) :: S.map olT
theorem cpO_tau {n : Nat} {S : List (Option OL)} : tau [] n (cpO S) = cpA n S := by
  unfold cpO cpA
  split
  · rfl
  · simp [tau, tauI]
theorem olT_tau {n : Nat} {S : List (Option OL)} : List.map (tauO [] n) (S.map olT) = S.map olT := by
  rw [List.map_map]
  apply List.map_congr_left
  intro o _
  cases o with
  | none => rfl
  | some o => simp [olT, tauO, Ln.row, tau]
theorem cpH_tau {n : Nat} {S : List (Option OL)} : List.map (tauO [] n) (cpH S) = cpG n S := by
  unfold cpH cpG
  rw [List.map_cons, olT_tau]
  congr 1
  split
  · rfl
  · simp only [tauO, cpR1_tau]
theorem junks_tau {n k : Nat} : tauC [] n (List.replicate k .junk) = List.replicate k .junk := by rw [tauC_map]; simp [tau]
theorem cpU_tau {n k : Nat} {S : List (Option OL)} : tau [] n (cpU k S).1 = .tup (cpA n S :: List.replicate k .junk) := by
  simp only [cpU, tau, tauC, cpO_tau, junks_tau]
theorem cpU_bare {k : Nat} {S : List (Option OL)} : bareA (cpU k S).1 = true ∧ bareH (cpU k S).2 = true := by
  have h1 : ∀ k, bareC (List.replicate k .junk) = true := fun k => by rw [bareC_all]; simp [bareA]
  have h2 : ∀ S : List (Option OL), bareH (S.map olT) = true := fun S => by
    induction S with
    | nil => rfl
    | cons o S ih =>
      cases o with
      | none => simpa [olT, bareH] using ih
      | some o => simp only [List.map_cons, olT, bareH, Bool.and_eq_true]; exact ⟨by simp [Ln.row, bareA], ih⟩
  refine ⟨?_, ?_⟩
  · simp only [cpU, bareA, bareC, h1, Bool.and_true]
    unfold cpO; split <;> rfl
  · simp only [cpU, cpH]
    split
    · simp only [bareH]; exact h2 S
    · simp only [bareH, Bool.and_eq_true]
      refine ⟨?_, h2 S⟩
      rw [List.all_eq_true]
      intro r hr
      obtain ⟨i, hi⟩ := List.getElem?_of_mem hr
      have hil : i < S.length := by have := (List.getElem?_eq_some_iff.1 hi).1; rwa [cpR1_len] at this
      rw [cpR1_get hil] at hi
      cases hi
      simp only [List.all_cons, List.all_nil, bareA, Bool.and_true]
      cases S[i] <;> rfl
/-! the bounded ones: cpV -/
theorem ite_bare {p : Prop} [Decidable p] {k : Nat} {g : SB → AVal × Heap} (h : (if p then some (cpV k) else none) = some g) : ∀ x, bareA (g x).1 = true ∧ bareH (g x).2 = true := by
  split at h
  · cases h; exact fun x => cpU_bare (S := x.1)
  · cases h
end
end
end Go.Proofs.Ytebpjfdbjhodiaa
