/- slices' functions, of integers. Package rmap: pairs, their order, Check. Package rmap: Check. Pairs in order: plain theory. Package rmap: check, find, the place of a pair. Package rmap: Put, Out, Where, and what the statements ask of lists. Package swap: what its functions answer, at every argument. Package swap, more. Package swap: Put, More, their results one's own. Package rmap: Put, Out, Move, their results one's own. -/
import Derived.Test.YtebpjfdbjhodiaaFaC
import Derived.Test.YtebpjfdbjhodiaaCwA
import Derived.Test.YtebpjfdbjhodiaaAiZe
import Derived.Test.YtebpjfdbjhodiaaSo
import Derived.Test.YtebpjfdbjhodiaaAiZj
namespace Go.Proofs.Ytebpjfdbjhodiaa
open Go.AI
set_option linter.unusedSimpArgs false
set_option linter.unusedVariables false
section
set_option maxHeartbeats 2000000
set_option maxRecDepth 100000
set_option linter.unusedSimpArgs false
set_option linter.unusedVariables false
attribute [local simp] wpA wpX RunA RunD runF foot footP footB idsA bare apart runL step1 gsel_f gsel_t gsel_s res_same res_and1 res_and2 res_and3 res_and4 res_and5 res_and6 res_false res_true res_v res_ptr res_fptr res_osl res_xsl soft aAppendZ aCap ovlI ovlJ res_fsl res_esl res_agg res_tup res_fn res_junk res_anyb aPick hk imp_left iteV dstOk guardOk astep astepE AI.ev AI.look AI.put envOf aBox cellsOf allOne allOneA oneA Value.oneCell' Value.cells newObj' aFieldAddr aLoad obj readAt thenA blockA condA retA resA tupA view hot hotC hotR depthV cAgg cInt cBool mkAgg allV aAlloc aBuild fillA writeAt aStore isAggA aField idx aIndexAddr aIndex bnd aSlice aExtract aLen aBuiltin aCall isStatic eqAgg eqTy eqC ev_add ev_sub ev_mul ev_quo ev_rem ev_and ev_or ev_xor ev_andNot ev_shl ev_shr ev_eql ev_neq ev_lss ev_leq ev_gtr ev_geq ev_agg w64 wu32 wu8 ev_not ev_neg Cod.plain RCod.plain argM finM cold coldC coldR goInt intDec boolDec aggDec Weaker heapW lowA lowC Again slDec undef aBuildSlice setRows aAppend rowsOf aMakeSlice aClear aCopy softer_self softer_nil valsOf ev_min2 ev_max2 hotR_set hotR_append take_map_set irow_cold irow_mapM irow_mapMc irow_view irow_viewc irow_hotR irow_ren irow_renc irow_low WeakT heapT thOf ren renC AgainT NextF NextT fnDec cFn rNil selfLt natLt0 natLt1 getLastMap frame0 frame1 own0 own1 argG finG tau tauI tauO tauC bareA bareC bareH irow_tau irow_tauc irow_bare irow_flat irow_bareR ownA_nil ownT_nil ownA_c ownT_c ownA_s ownT_s takeMapLen footC plainA noId noIdC cloneF frame0F frame1F insertF replaceI replaceF cellDec rCell fpDec cFp rTwo deleteF allV_oA oneA_oA res_oA RunR RunE runFT footAt hotR_cat tmodN aEqH aSliceA frameN newA newC newH fxSz3 fxBy3 fxAg3 fxZe3 fxSl3 fxSz4 fxBy4 fxAg4 fxZe4 fxSz5 fxBy5 fxAg5 fxZe5 fxSz33 fxAg33 fxZe33 fxAr33 fxPl33 fxSz111 fxAg111 fxZe111 fxSl111 fxAr111 fxSz112 fxBy112 fxAg112 fxZe112 fxSl112 fxAr112 fxSz135 fxAg135 fxZe135 fxSl135 fxAr135 fxSz137 fxBy137 fxAg137 fxZe137 fxFi137x0 fxFi137x1 fxFi137x2 fxPl137 fxSz138 fxAg138 fxZe138 fxSl138 fxAr138 fxSz140 fxAg140 fxZe140 fxFi140x0 fxFi140x1 fxPl140 fxSz141 fxAg141 fxZe141 fxSl141 fxAr141 fxSz146 fxBy146 fxAg146 fxZe146 fxFi146x0 fxPl146 fxZe165 fxAr165 fxPl165 fxZe166 fxAr166 fxPl166 fxZe167 fxAr167 fxPl167 fxSz296 fxAg296 fxZe296 fxAr296 fxPl296 fxSl308 fxAr308 fxEq137 fxEq146 fxEq296 fxCv3x283 fxCv283x3 fxEb4 fxNe111 fxOe111 fxXe111 fxNe112 fxOe112 fxXe112 fxNe135 fxOe135 fxXe135 fxLn138 fxNe138 fxOe138 fxXe138 fxNe141 fxOe141 fxXe141 fxFm46 fxFi46 fxFm48 fxFi48 fxFm57 fxFi57 fxFm58 fxFi58 fxFm59 fxFi59 fxFm60 fxFm61 fxFm62 fxFi63 fxFj63 fxFm64 fxFi64 fxFm65 fxFi65 fxFm66 fxFi66 fxFm67 fxFi67 fxFm68 fxFi68 fxFm69 fxFi69 fxFm70 fxFm71 fxFm72 fxFm73 fxFm74 fxFm75 fxFi75 fxFm76 fxFm77 fxFi77 fxFm133 fxFi133 fxFm136 fxFi136 fxFm137 fxFi137 fxFm138 fxFi138 fxFm139 fxFi139 fxFj139 fxFm140 fxFm141 fxFm142 fxFm143 fxFi143 fxFm144 fxFm145 fxFi145 fxFm146 fxFm147 fxFi147 fxFm148 fxFi148 fxFm149 fxFi149 fxFm150 fxFi150 fxFm185 fxFi185 fxFm186 fxFi186 fxFm187 fxFi187 fxFm188 fxFi188 fxFm189 fxFi189 fxFm190 fxFi190 fxFm191 fxFm195 fxFi195 fxFm196 fxFm206 fxFi206 fxFm218 fxFi218 fxFm232 fxFi232
section
/-- slices.Index, of integers -/
def idxOf (x : Int) : List Int → Option Nat
  | [] => none
  | y :: r => if x = y then some 0 else (idxOf x r).map (· + 1)
def idxI (x : Int) (l : List Int) : Int := match idxOf x l with | some k => k | none => -1

theorem index_pure : PureOk Try.prog 133 (argM (cSl (rI .i64)) fun l => argM (cInt .i64) fun x => finM (if l.length ≤ 4294967296 then some (.v (.int .i64 (idxI x l))) else none)) := by
  refine pure2 Try.func133 rfl ?_
  rintro l x r hr
  by_cases hc : l.length ≤ 4294967296
  case neg => rw [if_neg hc] at hr; cases hr
  rw [if_pos hc] at hr
  simp only [Option.some.injEq] at hr
  subst hr
  refine body_gen noOrc_ok fxMix (by kernel_rfl) (by simp [Try.ntmps133]) ?_
  intro C cP cI cN cD cF cA cR cL
  replace cI : C.inl = fun _ => false := cI
  replace cR : C.rd = fun _ => none := cR
  replace cD : C.dyn = fun _ => [] := cD
  clear cP cN cF cA
  simp [Try.ntmps133, Try.results133, cSl, cI, cD, cR, rI]
  refine loop_for l.length (fun k (_ : Unit) => ([(0, .fsl false 1 (l.map (irow .i64))), (1, .v (.int .i64 x)), (7, .v (.int .i64 l.length)), (8, .v (.int .i64 k))], [])) (fun k _ => idxOf x l = (idxOf x (l.drop k)).map (· + k)) () hc (by simp) (by simp) ?_ ?_
  · intro k _ hk hall hw
    rw [List.drop_eq_getElem_cons hk, idxOf] at hall
    simp [Try.ntmps133, Try.results133, cSl, cI, cD, cR, hk, irow, hw]
    split
    · rename_i q
      rw [if_pos q] at hall
      simp [idxI, hall]
    · rename_i q
      rw [if_neg q] at hall
      rw [hall, Option.map_map]
      congr 1
      funext z
      simp; omega
  · intro _ hall
    simp [idxOf] at hall
    simp [Try.ntmps133, Try.results133, cSl, cI, cD, cR, idxI, hall]

theorem idxOf_iff (x : Int) (l : List Int) : (idxOf x l).isSome = true ↔ x ∈ l := by
  induction l with
  | nil => simp [idxOf]
  | cons y r ih =>
    simp only [idxOf]
    split
    · rename_i h; simp [h]
    · rename_i h; simp [h, ih]
theorem idxI_iff (x : Int) (l : List Int) : 0 ≤ idxI x l ↔ x ∈ l := by
  rw [← idxOf_iff]
  unfold idxI
  cases idxOf x l <;> simp

theorem contains_pure : PureOk Try.prog 128 (argM (cSl (rI .i64)) fun l => argM (cInt .i64) fun x => finM (if l.length ≤ 4294967296 then some (.v (.bool (decide (x ∈ l)))) else none)) := by
  refine pure2 Try.func128 rfl ?_
  rintro l x r hr
  by_cases hc : l.length ≤ 4294967296
  case neg => rw [if_neg hc] at hr; cases hr
  rw [if_pos hc] at hr
  simp only [Option.some.injEq] at hr
  subst hr
  refine body_gen (noOrc_ok.withP index_pure) fxMix (by kernel_rfl) (by simp [Try.ntmps128]) ?_
  intro C cP cI cN cD cF cA cR cL
  have cp0 := orcP index_pure (C := C) (by rw [cP]; rfl)
  replace cI : C.inl = fun _ => false := cI
  replace cR : C.rd = fun _ => none := cR
  replace cD : C.dyn = fun _ => [] := cD
  clear cP cN cF cA
  simp [Try.ntmps128, Try.results128, cSl, cp0, cI, cD, cR, rI, hc, idxI_iff]
end
section
structure Pr where
  frame : Int
  space : Int
  page : Int
  deriving DecidableEq
def prDec : Row → Option Pr
  | [.v (.int .i64 x0), .v (.int .i64 x1), .v (.int .i64 x2)] => some ⟨x0, x1, x2⟩
  | _ => none
def Pr.row (e : Pr) : Row := [.v (.int .i64 e.frame), .v (.int .i64 e.space), .v (.int .i64 e.page)]
def rPr : RCod Pr := RCod.plain 3 Pr.row prDec
  (fun e => rfl) (fun _ => rfl) (fun r e h => by
    unfold prDec at h
    split at h
    · simp at h; subst h; rfl
    · cases h)
def Pr.val (e : Pr) : Value := .agg #[.int .i64 e.frame, .int .i64 e.space, .int .i64 e.page]
theorem Pr.eta (e : Pr) : Pr.mk e.frame e.space e.page = e := rfl
attribute [local simp] Pr.eta
theorem Pr.cold (l : List Pr) : coldR (l.map Pr.row) = l.map Pr.row := by
  induction l with
  | nil => simp [coldR]
  | cons e l ih => simp [coldR, coldC, AI.cold, ih, Pr.row]
theorem Pr.mapM (l : List Pr) : (l.map Pr.row).mapM prDec = some l := mapM_dec rPr l
theorem Pr.mapMc (l : List Pr) : l.mapM (prDec ∘ Pr.row) = some l := mapM_dec' rPr l
theorem Pr.view (H : Heap) (n : Nat) (e : Pr) : List.map (AI.view H n) e.row = e.row := by cases n <;> simp [Pr.row, AI.view]
theorem Pr.viewc (H : Heap) (n : Nat) : List.map (AI.view H n) ∘ Pr.row = Pr.row := by funext e; exact Pr.view H n e
theorem Pr.hotR (l : List Pr) : AI.hotR (l.map Pr.row) = true := by
  induction l with
  | nil => simp [AI.hotR]
  | cons e l ih => simp [AI.hotR, hotC, hot, ih, Pr.row]
theorem Pr.ren (n : Nat) (th : List Nat) (e : Pr) : List.map (AI.ren n th) e.row = e.row := by simp [Pr.row, AI.ren]
theorem Pr.renc (n : Nat) (th : List Nat) : List.map (AI.ren n th) ∘ Pr.row = Pr.row := by funext e; exact Pr.ren n th e
theorem Pr.low (n : Nat) (e : Pr) : e.row.all (lowA n) = true := by simp [Pr.row, lowA]
theorem Pr.tau (fp : List Nat) (n : Nat) (e : Pr) : List.map (AI.tau fp n) e.row = e.row := by simp [Pr.row, AI.tau]
theorem Pr.tauc (fp : List Nat) (n : Nat) : List.map (AI.tau fp n) ∘ Pr.row = Pr.row := by funext e; exact Pr.tau fp n e
theorem Pr.bare (e : Pr) : e.row.all bareA = true := by simp [Pr.row, bareA]
theorem Pr.flat (l : List Pr) : flat0 (l.map Pr.row) = true := by simp [flat0, Pr.low]
theorem Pr.flat1 (e : Pr) : flat0 [e.row] = true := by simp [flat0, Pr.low]
theorem Pr.exact : Exact rPr := by
  intro r e h
  simp only [rPr, RCod.plain] at h ⊢
  unfold prDec at h
  split at h
  · simp at h; subst h; rfl
  · cases h
theorem Pr.mapMt (k : Nat) (l : List Pr) : (List.take k (l.map Pr.row)).mapM prDec = some (l.take k) := by rw [← List.map_take]; exact mapM_dec rPr _
theorem Pr.mapMd (k : Nat) (l : List Pr) : (List.drop k (l.map Pr.row)).mapM prDec = some (l.drop k) := by rw [← List.map_drop]; exact mapM_dec rPr _
theorem Pr.coldt (k : Nat) (l : List Pr) : coldR (List.take k (l.map Pr.row)) = List.take k (l.map Pr.row) := by rw [← List.map_take]; exact Pr.cold _
theorem Pr.coldd (k : Nat) (l : List Pr) : coldR (List.drop k (l.map Pr.row)) = List.drop k (l.map Pr.row) := by rw [← List.map_drop]; exact Pr.cold _
theorem Pr.hotRt (k : Nat) (l : List Pr) : AI.hotR (List.take k (l.map Pr.row)) = true := by rw [← List.map_take]; exact Pr.hotR _
theorem Pr.hotRd (k : Nat) (l : List Pr) : AI.hotR (List.drop k (l.map Pr.row)) = true := by rw [← List.map_drop]; exact Pr.hotR _
attribute [local simp] Pr.hotRt Pr.hotRd
attribute [local simp] Pr.tau Pr.tauc Pr.bare Pr.flat Pr.flat1 Pr.mapMt Pr.mapMd Pr.coldt Pr.coldd
attribute [local simp] Pr.cold Pr.mapM Pr.mapMc Pr.view Pr.viewc Pr.hotR Pr.ren Pr.renc Pr.low
theorem pr_eq (a b : Pr) : a = b ↔ (a.frame = b.frame ∧ a.space = b.space ∧ a.page = b.page) := by cases a; cases b; simp
def Pr.right (p : Pr) : Bool := decide (0 ≤ p.frame ∧ p.frame < 64 ∧ 1 ≤ p.space ∧ p.space ≤ 16 ∧ 0 ≤ p.page ∧ p.page < 64)
theorem Pr.right_iff {p : Pr} : p.right = true ↔ 0 ≤ p.frame ∧ p.frame < 64 ∧ 1 ≤ p.space ∧ p.space ≤ 16 ∧ 0 ≤ p.page ∧ p.page < 64 := by simp [Pr.right]
theorem right_pure : PureOk Try.prog 186 (argM (cAgg rPr) fun a => finM (some (.v (.bool a.right)))) := by
  refine pure1 Try.func186 rfl ?_
  rintro a r hr
  simp only [Option.some.injEq] at hr
  subst hr
  refine body_gen noOrc_ok fxMix (by kernel_rfl) (by simp [Try.ntmps186]) ?_
  intro C cP cI cN cD cF cA cR cL
  replace cI : C.inl = fun _ => false := cI
  replace cR : C.rd = fun _ => none := cR
  replace cD : C.dyn = fun _ => [] := cD
  clear cP cN cF cA
  unfold Pr.right
  by_cases h1 : 0 ≤ a.frame <;> by_cases h2 : a.frame < 64 <;> by_cases h3 : 1 ≤ a.space <;> by_cases h4 : a.space ≤ 16 <;> by_cases h5 : 0 ≤ a.page <;> by_cases h6 : a.page < 64 <;> simp [Try.ntmps186, Try.results186, cSl, cI, cD, cR, rPr, Pr.row, h1, h2, h3, h4, h5, h6]
theorem nan_pure : PureOk Try.prog 206 (argM (cInt .i64) fun x => finM (some (.v (.bool false)))) := by
  refine pure1 Try.func206 rfl ?_
  rintro x r hr
  simp only [Option.some.injEq] at hr
  subst hr
  refine body_gen noOrc_ok fxMix (by kernel_rfl) (by simp [Try.ntmps206]) ?_
  intro C cP cI cN cD cF cA cR cL
  replace cI : C.inl = fun _ => false := cI
  replace cR : C.rd = fun _ => none := cR
  replace cD : C.dyn = fun _ => [] := cD
  clear cP cN cF cA
  simp [Try.ntmps206, Try.results206, cSl, cI, cD, cR]
def cmpI (x y : Int) : Int := if x < y then -1 else if y < x then 1 else 0
theorem cmp_pure : PureOk Try.prog 190 (argM (cInt .i64) fun x => argM (cInt .i64) fun y => finM (some (.v (.int .i64 (cmpI x y))))) := by
  refine pure2 Try.func190 rfl ?_
  rintro x y r hr
  simp only [Option.some.injEq] at hr
  subst hr
  refine body_gen (noOrc_ok.withP nan_pure) fxMix (by kernel_rfl) (by simp [Try.ntmps190]) ?_
  intro C cP cI cN cD cF cA cR cL
  have cp0 := orcP nan_pure (C := C) (by rw [cP]; rfl)
  replace cI : C.inl = fun _ => false := cI
  replace cR : C.rd = fun _ => none := cR
  replace cD : C.dyn = fun _ => [] := cD
  clear cP cN cF cA
  unfold cmpI
  by_cases h1 : x < y
  · simp [Try.ntmps190, Try.results190, cSl, cp0, cI, cD, cR, h1]
  · by_cases h2 : y < x
    · simp [Try.ntmps190, Try.results190, cSl, cp0, cI, cD, cR, h1, h2]
    · simp [Try.ntmps190, Try.results190, cSl, cp0, cI, cD, cR, h1, h2]
def orI : List Int → Int
  | [] => 0
  | x :: r => if x = 0 then orI r else x
theorem or_pure : PureOk Try.prog 189 (argM (cSl (rI .i64)) fun l => finM (if l.length ≤ 4294967296 then some (.v (.int .i64 (orI l))) else none)) := by
  refine pure1 Try.func189 rfl ?_
  rintro l r hr
  by_cases hc : l.length ≤ 4294967296
  case neg => rw [if_neg hc] at hr; cases hr
  rw [if_pos hc] at hr
  simp only [Option.some.injEq] at hr
  subst hr
  refine body_gen noOrc_ok fxMix (by kernel_rfl) (by simp [Try.ntmps189]) ?_
  intro C cP cI cN cD cF cA cR cL
  replace cI : C.inl = fun _ => false := cI
  replace cR : C.rd = fun _ => none := cR
  replace cD : C.dyn = fun _ => [] := cD
  clear cP cN cF cA
  simp [Try.ntmps189, Try.results189, cSl, cI, cD, cR, rI]
  refine loop_for l.length (fun k (_ : Unit) => ([(3, .v (.int .i64 0)), (6, .fsl false 1 (l.map (irow .i64))), (7, .v (.int .i64 l.length)), (8, .v (.int .i64 k))], [])) (fun k _ => orI (l.drop k) = orI l) () hc (by simp) (by simp) ?_ ?_
  · intro k _ hk hall hw
    rw [List.drop_eq_getElem_cons hk, orI] at hall
    by_cases q : l[k] = 0
    · rw [if_pos q] at hall
      simp [Try.ntmps189, Try.results189, cSl, cI, cD, cR, hk, irow, hw, q]
      exact hall
    · rw [if_neg q] at hall
      simp [Try.ntmps189, Try.results189, cSl, cI, cD, cR, hk, irow, hw, q, hall]
      intro h
      exact absurd (hall.trans h) q
  · intro _ hall
    simp [orI] at hall
    simp [Try.ntmps189, Try.results189, cSl, cI, cD, cR, ← hall]
def ordP (a b : Pr) : Int := if a.frame = b.frame then (if a.space = b.space then cmpI a.page b.page else cmpI a.space b.space) else cmpI a.frame b.frame
theorem cmpI_zero {x y : Int} : cmpI x y = 0 ↔ x = y := by unfold cmpI; split <;> (try split) <;> simp <;> omega
theorem ordP_or (a b : Pr) : orI [cmpI a.frame b.frame, cmpI a.space b.space, cmpI a.page b.page] = ordP a b := by
  unfold ordP
  simp only [orI, cmpI_zero]
  split
  · split
    · split
      · rename_i h; exact (cmpI_zero.2 h).symm
      · rfl
    · rfl
  · rfl
theorem order_pure : PureOk Try.prog 139 (argM (cAgg rPr) fun a => argM (cAgg rPr) fun b => finM (some (.v (.int .i64 (ordP a b))))) := by
  refine pure2 Try.func139 rfl ?_
  rintro a b r hr
  simp only [Option.some.injEq] at hr
  subst hr
  refine body_gen ((noOrc_ok.withP or_pure).withP cmp_pure) fxMix (by kernel_rfl) (by simp [Try.ntmps139]) ?_
  intro C cP cI cN cD cF cA cR cL
  have cp0 := orcP or_pure (C := C) (by rw [cP]; rfl)
  have cp1 := orcP cmp_pure (C := C) (by rw [cP]; rfl)
  replace cI : C.inl = fun _ => false := cI
  replace cR : C.rd = fun _ => none := cR
  replace cD : C.dyn = fun _ => [] := cD
  clear cP cN cF cA
  simp [Try.ntmps139, Try.results139, cSl, cp0, cp1, cI, cD, cR, rPr, Pr.row, rI, irow, irowDec, ordP_or]
end
section
attribute [local simp] Pr.eta Pr.cold Pr.mapM Pr.mapMc Pr.view Pr.viewc Pr.hotR Pr.ren Pr.renc Pr.low Pr.tau Pr.tauc Pr.bare Pr.flat Pr.flat1 Pr.mapMt Pr.mapMd Pr.coldt Pr.coldd Pr.hotRt Pr.hotRd
def keyP (s p : Int) : Value := .agg #[.int .i64 s, .int .i64 p]
theorem keyP_ok (s p : Int) : keyOk Try.prog 296 (keyP s p) = true := by kernel_rfl
def Pr.at (p : Pr) (s g : Int) : Bool := decide (p.space = s ∧ p.page = g)
def seenR (l : List Pr) : List Row := l.map fun p => [.v (keyP p.space p.page), .v (.bool true)]
theorem keyP_eq (s p t q : Int) : keyEq Try.prog 296 (keyP s p) (keyP t q) = some (decide (s = t ∧ p = q)) := by
  simp [keyEq, keyP]
  by_cases h : s = t <;> by_cases h2 : p = q <;> simp [h, h2]
def SeenD (l : List Pr) : Prop := l.Pairwise fun a b => ¬ (a.space = b.space ∧ a.page = b.page)
theorem any_at {l : List Pr} {s p : Int} : l.any (·.at s p) = true ↔ ∃ x ∈ l, x.space = s ∧ x.page = p := by
  simp [Pr.at]
theorem SeenD.next {l : List Pr} {k : Nat} (hk : k < l.length) (h : SeenD (l.take k)) (hq : (l.take k).any (·.at l[k].space l[k].page) = false) : SeenD (l.take (k + 1)) := by
  rw [List.take_succ_eq_append_getElem hk]
  unfold SeenD
  rw [List.pairwise_append]
  refine ⟨h, List.pairwise_singleton _ _, fun a ha b hb e => ?_⟩
  rw [List.mem_singleton] at hb
  subst hb
  have : (l.take k).any (·.at l[k].space l[k].page) = true := any_at.2 ⟨a, ha, e⟩
  rw [hq] at this; cases this
theorem seen_find (s p : Int) (l : List Pr) (hd : SeenD l) : findR Try.prog 296 (keyP s p) (seenR l) = some (if l.any (·.at s p) then some (.v (.bool true)) else none) := by
  induction l with
  | nil => simp [seenR, findR]
  | cons a l ih =>
    have ih := ih (List.pairwise_cons.1 hd).2
    simp only [seenR, List.map_cons, findR, keyP_eq] at ih ⊢
    by_cases h : a.at s p = true
    · have h' : s = a.space ∧ p = a.page := by simp [Pr.at] at h; exact ⟨h.1.symm, h.2.symm⟩
      have h3 : l.any (·.at s p) = false := by
        rw [← Bool.not_eq_true, any_at]
        rintro ⟨x, hx, e1, e2⟩
        exact (List.pairwise_cons.1 hd).1 x hx ⟨by rw [← h'.1, e1], by rw [← h'.2, e2]⟩
      rw [h3] at ih
      rw [ih]
      simp only [List.any_cons, h]
      simp [h'.1, h'.2]
    · have h' : ¬ (s = a.space ∧ p = a.page) := by simp [Pr.at] at h; rintro ⟨rfl, rfl⟩; exact h rfl rfl
      have h2 : decide (s = a.space ∧ p = a.page) = false := by simpa using h'
      rw [h2]
      simp only [Bool.not_eq_true] at h
      simp [h, ih]
theorem seen_put (s p : Int) (l : List Pr) (h : l.any (·.at s p) = false) : putR Try.prog 296 (keyP s p) (.v (.bool true)) (seenR l) = some (seenR l ++ [[.v (keyP s p), .v (.bool true)]]) := by
  induction l with
  | nil => simp [seenR, putR]
  | cons a l ih =>
    simp only [List.any_cons, Bool.or_eq_false_iff] at h
    have h' : ¬ (s = a.space ∧ p = a.page) := by have h := h.1; simp [Pr.at] at h; rintro ⟨rfl, rfl⟩; exact h rfl rfl
    have h2 : decide (s = a.space ∧ p = a.page) = false := by simpa using h'
    have ih := ih h.2
    simp only [seenR, List.map_cons, putR, keyP_eq, h2] at ih ⊢
    simp [ih]
def badLast : Option Pr → Pr → Bool
  | some q, p => decide (0 ≤ ordP q p)
  | none, _ => false
def rmGo (seen : List Pr) : List Pr → Int
  | [] => 0
  | p :: r => if p.right = true then (if badLast seen.getLast? p = true then 3 else if seen.any (·.at p.space p.page) = true then 5 else rmGo (seen ++ [p]) r) else 1
def rmCheck (l : List Pr) : Int := if 1024 < l.length then 2 else rmGo [] l
theorem take_last {l : List Pr} {k : Nat} (hk : k < l.length) : (l.take (k + 1)).getLast? = some l[k] := by
  rw [List.take_succ_eq_append_getElem hk, List.getLast?_concat]
theorem seen_next {l : List Pr} {k : Nat} (hk : k < l.length) : seenR (l.take (k + 1)) = seenR (l.take k) ++ [[.v (.agg #[.int .i64 l[k].space, .int .i64 l[k].page]), .v (.bool true)]] := by
  rw [List.take_succ_eq_append_getElem hk, seenR, List.map_append]; rfl
theorem seen_low {n : Nat} {L : List Pr} {x : Row} (h : x ∈ seenR L) : ∀ a ∈ x, lowA n a = true := by
  simp only [seenR, List.mem_map] at h
  obtain ⟨p, _, rfl⟩ := h
  simp [lowA, keyP]
theorem rmCheck_pure : PureOk Try.prog 185 (argM (cSl rPr) fun l => finM (some (.v (.int .i64 (rmCheck l))))) := by
  refine pure1 Try.func185 rfl ?_
  rintro l r hr
  simp only [Option.some.injEq] at hr
  subst hr
  refine body_gen ((noOrc_ok.withP right_pure).withP order_pure) fxMix (by kernel_rfl) (by simp [Try.ntmps185]) ?_
  intro C cP cI cN cD cF cA cR cL
  have cp0 := orcP right_pure (C := C) (by rw [cP]; rfl)
  have cp1 := orcP order_pure (C := C) (by rw [cP]; rfl)
  replace cI : C.inl = fun _ => false := cI
  replace cR : C.rd = fun _ => none := cR
  replace cD : C.dyn = fun _ => [] := cD
  clear cP cN cF cA
  simp [Try.ntmps185, Try.results185, cSl, cp0, cp1, cI, cD, cR, rPr]
  unfold rmCheck
  split
  · rename_i h; simp [show 1024 < l.length by omega]
  · rename_i h
    rw [if_neg (by omega)]
    refine loop_for l.length (fun k (_ : Unit) => ([(0, .fsl false 3 (l.map Pr.row)), (3, .ptr 0 0 0 0), (11, .fsl false 3 (l.map Pr.row)), (12, .v (.int .i64 l.length)), (13, .v (.int .i64 k))], [some (0, seenR (l.take k))])) (fun k _ => rmGo (l.take k) (l.drop k) = rmGo [] l ∧ SeenD (l.take k)) () (by omega) ⟨rfl, List.Pairwise.nil⟩ (by simp [seenR]) ?_ ?_
    · rintro k _ hk ⟨hall, hsd⟩ hw
      rw [List.drop_eq_getElem_cons hk] at hall
      have hf := seen_find l[k].space l[k].page (l.take k) hsd
      have hp := seen_put l[k].space l[k].page (l.take k)
      have hko := keyP_ok l[k].space l[k].page
      have hn := seen_next hk
      simp only [keyP] at hf hp hko
      by_cases q1 : l[k].right = true
      · by_cases q0 : k = 0
        · have q0' : (k = 0) = True := eq_true q0
          have q0b : (0 < k) = False := eq_false (by omega)
          have q0c : ((k : Int) = 0) = True := eq_true (by omega)
          have q0d : ((0 : Int) < (k : Int)) = False := eq_false (by omega)
          have e0 : l.take k = [] := by rw [q0]; rfl
          have hg : (l.take k).getLast? = none := by rw [e0]; rfl
          have ha : (l.take k).any (·.at l[k].space l[k].page) = false := by rw [e0]; rfl
          simp only [rmGo, q1, if_true, hg, ha, badLast, Bool.false_eq_true, if_false, ← List.take_succ_eq_append_getElem hk] at hall hf hp
          replace hp := hp trivial
          have hsn := hsd.next hk (by rw [e0]; rfl)
          clear q0 e0 hg ha
          simp [Try.ntmps185, Try.results185, cSl, cp0, cp1, cI, cD, cR, rPr, hk, hw, Pr.row, prDec, q1, q0b, q0d, aLookup, aMapUpdate, Try.underlying295, hko, hf, hp, lkRes]
          exact ⟨⟨hall, hsn⟩, hn, fun x h => seen_low h⟩
        · have hj : k - 1 < l.length := by omega
          have hg : (l.take k).getLast? = some l[k - 1] := by
            have := take_last hj
            rwa [show k - 1 + 1 = k by omega] at this
          have hjw : IntKind.i64.wrap ((k : Int) - 1) = ((k - 1 : Nat) : Int) := by rw [w64 (by omega) (by omega)]; omega
          simp only [rmGo, q1, if_true, hg, badLast, decide_eq_true_eq] at hall
          by_cases q2 : 0 ≤ ordP l[k - 1] l[k]
          · rw [if_pos q2] at hall
            simp [Try.ntmps185, Try.results185, cSl, cp0, cp1, cI, cD, cR, hk, hj, hw, Pr.row, prDec, q1, q0, Nat.pos_of_ne_zero q0, hjw, rPr, q2, hall]
            done
          · rw [if_neg q2] at hall
            by_cases q3 : (l.take k).any (·.at l[k].space l[k].page) = true
            · simp only [q3, if_true] at hall hf
              simp [Try.ntmps185, Try.results185, cSl, cp0, cp1, cI, cD, cR, hk, hj, hw, Pr.row, prDec, q1, q0, Nat.pos_of_ne_zero q0, hjw, rPr, q2, hall, aLookup, aMapUpdate, Try.underlying295, hko, hf, lkRes]
              done
            · simp only [Bool.not_eq_true] at q3
              replace hp := hp q3
              have hsn := hsd.next hk q3
              simp only [q3, Bool.false_eq_true, if_false, ← List.take_succ_eq_append_getElem hk] at hall hf
              simp [Try.ntmps185, Try.results185, cSl, cp0, cp1, cI, cD, cR, hk, hj, hw, Pr.row, prDec, q1, q0, Nat.pos_of_ne_zero q0, hjw, rPr, q2, aLookup, aMapUpdate, Try.underlying295, hko, hf, hp, lkRes]
              exact ⟨⟨hall, hsn⟩, hn, fun x h => seen_low h⟩
      · simp only [rmGo, q1, if_false, Bool.false_eq_true] at hall
        simp at q1
        simp [Try.ntmps185, Try.results185, cSl, cp0, cp1, cI, cD, cR, rPr, hk, hw, Pr.row, prDec, q1]
        exact hall
    · rintro _ ⟨hall, _⟩
      simp [rmGo] at hall
      simp [Try.ntmps185, Try.results185, cSl, cp0, cp1, cI, cD, cR, hall]
end
end
section
theorem ordP_lt {a b : Pr} : ordP a b < 0 ↔ (a.frame < b.frame ∨ (a.frame = b.frame ∧ (a.space < b.space ∨ (a.space = b.space ∧ a.page < b.page)))) := by
  unfold ordP cmpI
  repeat' split
  all_goals omega
theorem ordP_zero {a b : Pr} : ordP a b = 0 ↔ a = b := by
  rw [pr_eq]
  unfold ordP cmpI
  repeat' split
  all_goals omega
theorem ordP_tr {a b c : Pr} (h : ordP a b < 0) (h2 : ordP b c < 0) : ordP a c < 0 := by
  rw [ordP_lt] at h h2 ⊢
  omega
theorem ordP_flip {a b : Pr} : 0 < ordP a b ↔ ordP b a < 0 := by
  rw [ordP_lt]
  unfold ordP cmpI
  repeat' split
  all_goals omega
theorem ordP_tri (a b : Pr) : ordP a b < 0 ∨ a = b ∨ ordP b a < 0 := by
  rcases Int.lt_trichotomy (ordP a b) 0 with h | h | h
  · exact .inl h
  · exact .inr (.inl (ordP_zero.1 h))
  · exact .inr (.inr (ordP_flip.1 h))
theorem ordP_as {a b : Pr} (h : ordP a b < 0) : ¬ ordP b a < 0 := by
  have := ordP_flip (a := a) (b := b)
  omega
def LtP (a b : Pr) : Prop := ordP a b < 0
def NeP (a b : Pr) : Prop := ¬ (a.space = b.space ∧ a.page = b.page)
structure Good (l : List Pr) : Prop where
  len : l.length ≤ 1024
  right : ∀ p ∈ l, p.right = true
  sorted : l.Pairwise LtP
  diff : l.Pairwise NeP
theorem pw_snoc {α : Type} {R : α → α → Prop} {s : List α} {p : α} : (s ++ [p]).Pairwise R ↔ s.Pairwise R ∧ ∀ x ∈ s, R x p := by
  rw [List.pairwise_append]; simp
theorem pw_app {α : Type} {R : α → α → Prop} {s t : List α} (h : (s ++ t).Pairwise R) : s.Pairwise R := (List.pairwise_append.1 h).1
theorem sorted_snoc {s : List Pr} {p : Pr} (h : s.Pairwise LtP) : (∀ x ∈ s, LtP x p) ↔ badLast s.getLast? p = false := by
  rcases List.eq_nil_or_concat s with rfl | ⟨o, b, rfl⟩
  · simp [badLast]
  · simp only [List.concat_eq_append] at *
    simp only [List.getLast?_append, List.getLast?_singleton, Option.some_or, badLast, decide_eq_false_iff_not, Int.not_le]
    constructor
    · intro h; exact h b (by simp)
    · intro hb x hx
      rw [pw_snoc] at h
      simp at hx
      rcases hx with hx | rfl
      · exact ordP_tr (h.2 x hx) hb
      · exact hb
theorem at_any {s : List Pr} {p : Pr} : s.any (·.at p.space p.page) = false ↔ ∀ x ∈ s, NeP x p := by
  simp [Pr.at, NeP]
theorem rmGo_iff {s r : List Pr} (hs : s.Pairwise LtP) (hd : s.Pairwise NeP) : rmGo s r = 0 ↔ (∀ p ∈ r, p.right = true) ∧ (s ++ r).Pairwise LtP ∧ (s ++ r).Pairwise NeP := by
  induction r generalizing s with
  | nil => simp [rmGo, hs, hd]
  | cons p r ih =>
    have e : s ++ p :: r = (s ++ [p]) ++ r := by simp
    simp only [rmGo]
    by_cases h1 : p.right = true
    · simp only [h1, if_true]
      by_cases h2 : badLast s.getLast? p = true
      · rw [if_pos h2]
        simp only [Int.reduceEq, false_iff]
        rintro ⟨_, h, _⟩
        rw [e] at h
        have := (sorted_snoc hs).1 (pw_snoc.1 (pw_app h)).2
        rw [h2] at this; cases this
      · rw [if_neg h2]
        simp only [Bool.not_eq_true] at h2
        have h3 := (sorted_snoc hs).2 h2
        by_cases h4 : s.any (·.at p.space p.page) = true
        · rw [if_pos h4]
          simp only [Int.reduceEq, false_iff]
          rintro ⟨_, _, h⟩
          rw [e] at h
          have := at_any.2 (pw_snoc.1 (pw_app h)).2
          rw [h4] at this; cases this
        · rw [if_neg h4]
          simp only [Bool.not_eq_true] at h4
          rw [ih (pw_snoc.2 ⟨hs, h3⟩) (pw_snoc.2 ⟨hd, at_any.1 h4⟩), e]
          simp [h1]
    · simp only [h1, if_false, Bool.false_eq_true]
      simp only [Int.reduceEq, false_iff]
      rintro ⟨h, _⟩
      exact h1 (h p (by simp))
theorem rmCheck_iff {l : List Pr} : rmCheck l = 0 ↔ Good l := by
  unfold rmCheck
  split
  · rename_i h
    simp only [Int.reduceEq, false_iff]
    intro g
    have := g.len
    omega
  · rename_i h
    rw [rmGo_iff List.Pairwise.nil List.Pairwise.nil]
    constructor
    · rintro ⟨h1, h2, h3⟩
      exact ⟨by omega, h1, h2, h3⟩
    · intro g
      exact ⟨g.right, g.sorted, g.diff⟩
def rmChk (l : List Pr) (p : Pr) : Int := if rmCheck l = 0 then (if p.right = true then 0 else 1) else rmCheck l
theorem rmChk_iff {l : List Pr} {p : Pr} : rmChk l p = 0 ↔ Good l ∧ p.right = true := by
  unfold rmChk
  rw [← rmCheck_iff]
  split
  · rename_i h; split
    · rename_i h2; simp [h, h2]
    · rename_i h2; simp [h2]
  · rename_i h; simp [h]
/-- how many lie before p -/
def lowP (l : List Pr) (p : Pr) : Nat := (l.takeWhile (fun x => decide (ordP x p < 0))).length
theorem lowP_le (l : List Pr) (p : Pr) : lowP l p ≤ l.length := by
  unfold lowP
  exact (List.takeWhile_sublist _).length_le
theorem lowP_iff {l : List Pr} {p : Pr} (h : l.Pairwise LtP) (i : Nat) (hi : i < l.length) : ordP l[i] p < 0 ↔ i < lowP l p := by
  unfold lowP
  induction l generalizing i with
  | nil => simp at hi
  | cons a l ih =>
    simp only [List.pairwise_cons] at h
    by_cases q : ordP a p < 0
    · simp only [List.takeWhile_cons, q, decide_true, if_true, List.length_cons]
      cases i with
      | zero => simp [q]
      | succ i =>
        simp only [List.getElem_cons_succ]
        rw [ih h.2 i (by simpa using hi)]
        omega
    · simp only [List.takeWhile_cons, q, decide_false, Bool.false_eq_true, if_false, List.length_nil]
      simp only [Nat.not_lt_zero, iff_false]
      cases i with
      | zero => simpa using q
      | succ i =>
        simp only [List.getElem_cons_succ]
        intro hx
        exact q (ordP_tr (h.1 _ (List.getElem_mem _)) hx)
def hasP (l : List Pr) (p : Pr) : Bool := match l[lowP l p]? with | some x => decide (ordP x p = 0) | none => false
end
section
set_option maxHeartbeats 2000000
set_option maxRecDepth 100000
set_option linter.unusedSimpArgs false
set_option linter.unusedVariables false
attribute [local simp] wpA wpX RunA RunD runF foot footP footB idsA bare apart runL step1 gsel_f gsel_t gsel_s res_same res_and1 res_and2 res_and3 res_and4 res_and5 res_and6 res_false res_true res_v res_ptr res_fptr res_osl res_xsl soft aAppendZ aCap ovlI ovlJ res_fsl res_esl res_agg res_tup res_fn res_junk res_anyb aPick hk imp_left iteV dstOk guardOk astep astepE AI.ev AI.look AI.put envOf aBox cellsOf allOne allOneA oneA Value.oneCell' Value.cells newObj' aFieldAddr aLoad obj readAt thenA blockA condA retA resA tupA view hot hotC hotR depthV cAgg cInt cBool mkAgg allV aAlloc aBuild fillA writeAt aStore isAggA aField idx aIndexAddr aIndex bnd aSlice aExtract aLen aBuiltin aCall isStatic eqAgg eqTy eqC ev_add ev_sub ev_mul ev_quo ev_rem ev_and ev_or ev_xor ev_andNot ev_shl ev_shr ev_eql ev_neq ev_lss ev_leq ev_gtr ev_geq ev_agg w64 wu32 wu8 ev_not ev_neg Cod.plain RCod.plain argM finM cold coldC coldR goInt intDec boolDec aggDec Weaker heapW lowA lowC Again slDec undef aBuildSlice setRows aAppend rowsOf aMakeSlice aClear aCopy softer_self softer_nil valsOf ev_min2 ev_max2 hotR_set hotR_append take_map_set irow_cold irow_mapM irow_mapMc irow_view irow_viewc irow_hotR irow_ren irow_renc irow_low WeakT heapT thOf ren renC AgainT NextF NextT fnDec cFn rNil selfLt natLt0 natLt1 getLastMap frame0 frame1 own0 own1 argG finG tau tauI tauO tauC bareA bareC bareH irow_tau irow_tauc irow_bare irow_flat irow_bareR ownA_nil ownT_nil ownA_c ownT_c ownA_s ownT_s takeMapLen footC plainA noId noIdC cloneF frame0F frame1F insertF replaceI replaceF cellDec rCell fpDec cFp rTwo deleteF allV_oA oneA_oA res_oA RunR RunE runFT footAt hotR_cat tmodN aEqH aSliceA frameN newA newC newH fxSz3 fxBy3 fxAg3 fxZe3 fxSl3 fxSz4 fxBy4 fxAg4 fxZe4 fxSz5 fxBy5 fxAg5 fxZe5 fxSz33 fxAg33 fxZe33 fxAr33 fxPl33 fxSz111 fxAg111 fxZe111 fxSl111 fxAr111 fxSz112 fxBy112 fxAg112 fxZe112 fxSl112 fxAr112 fxSz135 fxAg135 fxZe135 fxSl135 fxAr135 fxSz137 fxBy137 fxAg137 fxZe137 fxFi137x0 fxFi137x1 fxFi137x2 fxPl137 fxSz138 fxAg138 fxZe138 fxSl138 fxAr138 fxSz140 fxAg140 fxZe140 fxFi140x0 fxFi140x1 fxPl140 fxSz141 fxAg141 fxZe141 fxSl141 fxAr141 fxSz146 fxBy146 fxAg146 fxZe146 fxFi146x0 fxPl146 fxZe165 fxAr165 fxPl165 fxZe166 fxAr166 fxPl166 fxZe167 fxAr167 fxPl167 fxSz296 fxAg296 fxZe296 fxAr296 fxPl296 fxSl308 fxAr308 fxEq137 fxEq146 fxEq296 fxCv3x283 fxCv283x3 fxEb4 fxNe111 fxOe111 fxXe111 fxNe112 fxOe112 fxXe112 fxNe135 fxOe135 fxXe135 fxLn138 fxNe138 fxOe138 fxXe138 fxNe141 fxOe141 fxXe141 fxFm46 fxFi46 fxFm48 fxFi48 fxFm57 fxFi57 fxFm58 fxFi58 fxFm59 fxFi59 fxFm60 fxFm61 fxFm62 fxFi63 fxFj63 fxFm64 fxFi64 fxFm65 fxFi65 fxFm66 fxFi66 fxFm67 fxFi67 fxFm68 fxFi68 fxFm69 fxFi69 fxFm70 fxFm71 fxFm72 fxFm73 fxFm74 fxFm75 fxFi75 fxFm76 fxFm77 fxFi77 fxFm133 fxFi133 fxFm136 fxFi136 fxFm137 fxFi137 fxFm138 fxFi138 fxFm139 fxFi139 fxFj139 fxFm140 fxFm141 fxFm142 fxFm143 fxFi143 fxFm144 fxFm145 fxFi145 fxFm146 fxFm147 fxFi147 fxFm148 fxFi148 fxFm149 fxFi149 fxFm150 fxFi150 fxFm185 fxFi185 fxFm186 fxFi186 fxFm187 fxFi187 fxFm188 fxFi188 fxFm189 fxFi189 fxFm190 fxFi190 fxFm191 fxFm195 fxFi195 fxFm196 fxFm206 fxFi206 fxFm218 fxFi218 fxFm232 fxFi232
section
attribute [local simp] Pr.eta Pr.cold Pr.mapM Pr.mapMc Pr.view Pr.viewc Pr.hotR Pr.ren Pr.renc Pr.low Pr.tau Pr.tauc Pr.bare Pr.flat Pr.flat1 Pr.mapMt Pr.mapMd Pr.coldt Pr.coldd Pr.hotRt Pr.hotRd
theorem rmChk_pure : PureOk Try.prog 136 (argM (cSl rPr) fun l => argM (cAgg rPr) fun p => finM (some (.v (.int .i64 (rmChk l p))))) := by
  refine pure2 Try.func136 rfl ?_
  rintro l p r hr
  simp only [Option.some.injEq] at hr
  subst hr
  refine body_gen ((noOrc_ok.withP rmCheck_pure).withP right_pure) fxMix (by kernel_rfl) (by simp [Try.ntmps136]) ?_
  intro C cP cI cN cD cF cA cR cL
  have cp0 := orcP rmCheck_pure (C := C) (by rw [cP]; rfl)
  have cp1 := orcP right_pure (C := C) (by rw [cP]; rfl)
  replace cI : C.inl = fun _ => false := cI
  replace cR : C.rd = fun _ => none := cR
  replace cD : C.dyn = fun _ => [] := cD
  clear cP cN cF cA
  unfold rmChk
  by_cases h0 : rmCheck l = 0
  · by_cases h1 : p.right = true
    · simp [Try.ntmps136, Try.results136, cSl, cp0, cp1, cI, cD, cR, rPr, Pr.row, prDec, h0, h1]
    · simp at h1
      simp [Try.ntmps136, Try.results136, cSl, cp0, cp1, cI, cD, cR, rPr, Pr.row, prDec, h0, h1]
  · simp [Try.ntmps136, Try.results136, cSl, cp0, cp1, cI, cD, cR, rPr, Pr.row, prDec, h0]
def rCapP : RCod (Int × Int) := rTwo (cFp (rI .i64)) (cFp (rI .i64))
theorem findP1_pure : PureOk Try.prog 188 (argM (cAgg rPr) fun x => argM (cFp (rI .i64)) fun a => argM (cFp (rI .i64)) fun b => finM (some (.v (.bool (x.at a b))))) := by
  refine pure3 Try.func188 rfl ?_
  rintro x a b r hr
  simp only [Option.some.injEq] at hr
  subst hr
  refine body_gen noOrc_ok fxMix (by kernel_rfl) (by simp [Try.ntmps188]) ?_
  intro C cP cI cN cD cF cA cR cL
  replace cI : C.inl = fun _ => false := cI
  replace cR : C.rd = fun _ => none := cR
  replace cD : C.dyn = fun _ => [] := cD
  clear cP cN cF cA
  unfold Pr.at
  by_cases h1 : x.space = a <;> by_cases h2 : x.page = b <;> simp [Try.ntmps188, Try.results188, cSl, cI, cD, cR, rPr, Pr.row, prDec, rI, irow, h1, h2]
theorem findPI_pure : PureOk Try.prog 187 (argM (cSl rPr) fun l => argM (cFn 188 rCapP) fun cp => finM (if l.length ≤ 4294967296 then some (.v (.int .i64 (idxP ((fun x => x.at cp.1 cp.2)) l))) else none)) := by
  refine pure2 Try.func187 rfl ?_
  rintro l cp r hr
  by_cases hc : l.length ≤ 4294967296
  case neg => rw [if_neg hc] at hr; cases hr
  rw [if_pos hc] at hr
  simp only [Option.some.injEq] at hr
  subst hr
  refine body_gen (noOrc_ok.withP findP1_pure) fxMix (by kernel_rfl) (by simp [Try.ntmps187]) ?_
  intro C cP cI cN cD cF cA cR cL
  have cp0 := orcP findP1_pure (C := C) (by rw [cP]; rfl)
  replace cI : C.inl = fun _ => false := cI
  replace cR : C.rd = fun _ => none := cR
  replace cD : C.dyn = fun _ => [] := cD
  clear cP cN cF cA
  simp [Try.ntmps187, Try.results187, cSl, cp0, cI, cD, cR, rPr, Pr.row, prDec, rCapP, rI, irow, irowDec]
  refine loop_for l.length (fun k (_ : Unit) => ([(0, .fsl false 3 (l.map Pr.row)), (1, .fn 188 [.fptr (irow .i64 cp.1) 0, .fptr (irow .i64 cp.2) 0]), (7, .v (.int .i64 l.length)), (8, .v (.int .i64 k))], [])) (fun k _ => ((l.drop k).findIdx? ((fun x => x.at cp.1 cp.2))).map (· + k) = l.findIdx? ((fun x => x.at cp.1 cp.2))) () hc (by simp) (by simp [rPr, Pr.row, prDec, rCapP, rI, irow, irowDec]) ?_ ?_
  · intro k _ hk hall hw
    by_cases q : ((fun x => x.at cp.1 cp.2)) l[k] = true
    · rw [find_drop hk, if_pos q] at hall
      try simp at q
      simp [Try.ntmps187, Try.results187, cSl, cp0, cI, cD, cR, hk, hw, rPr, Pr.row, prDec, rCapP, rI, irow, irowDec, q, idxP, ← hall]
    · rw [find_drop hk, if_neg q] at hall
      try simp at q
      simp [Try.ntmps187, Try.results187, cSl, cp0, cI, cD, cR, hk, hw, rPr, Pr.row, prDec, rCapP, rI, irow, irowDec, q]
      simpa using hall
  · intro _ hall
    simp at hall
    simp [Try.ntmps187, Try.results187, cSl, cp0, cI, cD, cR, idxP, ← hall]
def rmFind (l : List Pr) (s g : Int) : Int := idxP (fun x => x.at s g) l
theorem rmFind_pure : PureOk Try.prog 137 (argM (cSl rPr) fun l => argM (cInt .i64) fun s => argM (cInt .i64) fun g => finM (if l.length ≤ 4294967296 then some (.v (.int .i64 (rmFind l s g))) else none)) := by
  refine pure3 Try.func137 rfl ?_
  rintro l s g r hr
  by_cases hc : l.length ≤ 4294967296
  case neg => rw [if_neg hc] at hr; cases hr
  rw [if_pos hc] at hr
  simp only [Option.some.injEq] at hr
  subst hr
  refine body_gen (noOrc_ok.withP findPI_pure) fxMix (by kernel_rfl) (by simp [Try.ntmps137]) ?_
  intro C cP cI cN cD cF cA cR cL
  have cp0 := orcP findPI_pure (C := C) (by rw [cP]; rfl)
  replace cI : C.inl = fun _ => false := cI
  replace cR : C.rd = fun _ => none := cR
  replace cD : C.dyn = fun _ => [] := cD
  clear cP cN cF cA
  simp [Try.ntmps137, Try.results137, cSl, cp0, cI, cD, cR, rPr, rCapP, rI, irow, irowDec, hc, rmFind]
theorem mid_shr {i j : Nat} (h : i + j ≤ 4294967296) : IntKind.i64.wrap (ishr .u64 (IntKind.u64.wrap ((i : Int) + j)) 1) = (((i + j) / 2 : Nat) : Int) := by
  have h1 : IntKind.u64.wrap ((i : Int) + j) = (i : Int) + j := by simp [IntKind.wrap, IntKind.bits, IntKind.signed]; omega
  rw [h1]
  have h2 : ishr .u64 ((i : Int) + j) 1 = ((i : Int) + j) / 2 := by
    simp only [ishr, IntKind.bits]
    rw [show (2 : Int) ^ (min (1 : Int).toNat 64) = 2 by decide, Int.fdiv_eq_ediv_of_nonneg _ (by decide)]
  rw [h2, w64 (by omega) (by omega)]
  omega
theorem nmOrd : (Try.f139.name = "runtime.NumGoroutine") = False := eq_false (beq_eq_false_iff_ne.1 fxFm139)
theorem bs_pure : PureOk Try.prog 138 (argM (cSl rPr) fun l => argM (cAgg rPr) fun p => argM (cFn 139 rNil) fun f => finM (if rmCheck l = 0 then some (.v (.tuple #[.int .i64 (lowP l p), .bool (hasP l p)])) else none)) := by
  refine pure3 Try.func138 rfl ?_
  rintro l p f r hr
  by_cases hc : rmCheck l = 0
  case neg => rw [if_neg hc] at hr; cases hr
  rw [if_pos hc] at hr
  simp only [Option.some.injEq] at hr
  subst hr
  refine body_gen (noOrc_ok.withP order_pure) fxMix (by kernel_rfl) (by simp [Try.ntmps138]) ?_
  intro C cP cI cN cD cF cA cR cL
  have cp0 := orcP order_pure (C := C) (by rw [cP]; rfl)
  replace cI : C.inl = fun _ => false := cI
  replace cR : C.rd = fun _ => none := cR
  replace cD : C.dyn = fun _ => [] := cD
  clear cP cN cF cA
  have hlen := (rmCheck_iff.1 hc).len
  have hs := (rmCheck_iff.1 hc).sorted
  have hle := lowP_le l p
  have hlow := lowP_iff (p := p) hs
  simp [Try.ntmps138, Try.results138, cSl, cp0, cI, cD, cR, rPr, Pr.row, prDec]
  refine loop_inv (σ := {q : Nat × Nat // q.1 ≤ lowP l p ∧ lowP l p ≤ q.2 ∧ q.2 ≤ l.length}) (fun q => ([(0, .fsl false 3 (l.map Pr.row)), (2, .fn 139 []), (4, .ptr 0 3 0 0), (8, .v (.int .i64 l.length)), (9, .v (.int .i64 q.val.1)), (10, .v (.int .i64 q.val.2))], [some (3, [p.row])])) (fun q => q.val.2 - q.val.1) ⟨(0, l.length), by omega, by omega, by omega⟩ (by simp [Pr.row]) ?_
  rintro ⟨⟨i, j⟩, h1, h2, h3⟩
  simp only at h1 h2 h3
  by_cases q : i < j
  · have hm : (i + j) / 2 < l.length := by omega
    have hlo := hlow ((i + j) / 2) hm
    have w1 : IntKind.i64.wrap ((i : Int) + j) = (i : Int) + j := by rw [w64 (by omega) (by omega)]
    have w2 := mid_shr (i := i) (j := j) (by omega)
    have w3 : IntKind.i64.wrap ((((i + j) / 2 : Nat) : Int) + 1) = (((i + j) / 2 + 1 : Nat) : Int) := by rw [w64 (by omega) (by omega)]; simp
    have w4 : 0 ≤ ((((i + j) / 2 : Nat)) : Int) := by omega
    have w5 : ((((i + j) / 2 : Nat)) : Int) < l.length := by omega
    generalize hmid : (i + j) / 2 = m at *
    by_cases q2 : ordP l[m] p < 0
    · simp [Try.ntmps138, Try.results138, cSl, cp0, cI, cD, cR, rPr, Pr.row, prDec, q, w1, w2, w3, w4, w5, hm, q2, nmOrd]
      exact ⟨m + 1, j, by omega, by simp, ⟨by omega, by omega, by omega⟩, rfl⟩
    · simp [Try.ntmps138, Try.results138, cSl, cp0, cI, cD, cR, rPr, Pr.row, prDec, q, w1, w2, w3, w4, w5, hm, q2, nmOrd]
      exact ⟨i, m, by omega, rfl, ⟨by omega, by omega, by omega⟩, rfl⟩
  · have e : i = j := by omega
    subst e
    have e2 : i = lowP l p := by omega
    subst e2
    by_cases q2 : lowP l p < l.length
    · simp [Try.ntmps138, Try.results138, cSl, cp0, cI, cD, cR, rPr, Pr.row, prDec, q, q2, hasP, nmOrd]
      first | done | rfl | (rw [Bool.eq_iff_iff]; simp)
    · simp [Try.ntmps138, Try.results138, cSl, cp0, cI, cD, cR, rPr, Pr.row, prDec, q, q2, hasP, nmOrd]
end
section
attribute [local simp] Pr.eta Pr.cold Pr.mapM Pr.mapMc Pr.view Pr.viewc Pr.hotR Pr.ren Pr.renc Pr.low Pr.tau Pr.tauc Pr.bare Pr.flat Pr.flat1 Pr.mapMt Pr.mapMd Pr.coldt Pr.coldd Pr.hotRt Pr.hotRd
theorem prInsOv : InlOk Try.prog 191 ovlI := ovl_inl (t := 135) (r := 4) Try.func191 (by kernel_rfl) (by kernel_rfl) (by kernel_rfl) (by kernel_rfl) Try.underlying135 (sz := 3) (by kernel_rfl)
theorem prIns : InlOk Try.prog 140 (insertI 3) := by
  have hC := (noOrc_ok (P := Try.prog)).withI prInsOv
  refine insert_of Try.func140 rfl (by simp [Try.ntmps140]) ?_ ?_ ?_ ?_
  · intro H vid vr h1
    refine wpA_sound hC fxMix _ _ _ _ (by kernel_rfl) ?_
    have h1' := obj_get h1
    simp [Try.ntmps140, Try.results140, noOrc, Orc.withI, h1']
  · intro H id vid rows vr h1 h2 h3 h5
    refine wpA_sound hC fxMix _ _ _ _ (by kernel_rfl) ?_
    have h1' := obj_get h1
    have h2' := obj_get h2
    have h6 : ¬ (rows.length + 1 ≤ rows.length) := by omega
    have h7 : rows.length ≤ 4294967295 := by omega
    simp [Try.ntmps140, Try.results140, noOrc, Orc.withI, h1', h2', h6, h7]
  · intro H id vid i rows vr h1 h2 h3 h4 h5 h6 h7
    refine wpA_sound hC fxMix _ _ _ _ (by kernel_rfl) ?_
    have h1' := obj_get h1
    have h2' := obj_get h2
    have w1 : IntKind.i64.wrap ((rows.length : Int) + 1) = ((rows.length + 1 : Nat) : Int) := by rw [w64 (by omega) (by omega)]; simp
    obtain ⟨k, hk⟩ : ∃ k, k = rows.length + 1 - i := ⟨_, rfl⟩
    have w2 : IntKind.i64.wrap ((rows.length : Int) + 1 - i) = (k : Int) := by rw [w64 (by omega) (by omega)]; omega
    have w3 : IntKind.i64.wrap ((i : Int) + 1) = ((i + 1 : Nat) : Int) := by rw [w64 (by omega) (by omega)]; simp
    have h8 : ¬ i = rows.length := by omega
    have g1 := (List.getElem?_eq_some_iff.1 h1').2
    have g2 := (List.getElem?_eq_some_iff.1 h2').2
    have b1 : ¬ (i : Int) = rows.length := by omega
    have b2 : ¬ (rows.length : Int) = i := by omega
    have e1 : ∀ l, (H ++ l)[vid]? = some (some (3, [vr])) := by intro l; rw [List.getElem?_append_left h5, h2']
    have e2 : ∀ l, (H ++ l)[id]? = some (some (3, rows)) := by intro l; rw [List.getElem?_append_left h4, h1']
    have d0 : ¬ vid = id := fun h => h3 h.symm
    have d1 : 0 < rows.length - i := by omega
    have d2 : min 1 (rows.length + 1 - i) = 1 := by omega
    have d3 : List.take (rows.length + 1 - i) [vr] = [vr] := List.take_of_length_le (by simp; omega)
    have d4 : rows.length - i ≤ rows.length + 1 - (i + 1) := by omega
    have d5 : min (rows.length - i) (rows.length + 1 - (i + 1)) = rows.length - i := by omega
    have d6 : i + 1 + (rows.length - i) ≤ i + (rows.length - i + 1) := by omega
    have d7 : i + 1 + (rows.length - i) ≤ rows.length + 1 := by omega
    have d8 : min (i + 1) rows.length = i + 1 := by omega
    have d9 : rows.length + 1 ≤ i + 1 + (rows.length - i) := by omega
    have f1 : ∀ X, List.take (i + 1) (List.take i rows ++ vr :: X) = List.take i rows ++ [vr] := by
      intro X
      have hl : (List.take i rows).length = i := by simp; omega
      rw [List.take_append, hl, List.take_of_length_le (by omega)]; simp
    have f2 : List.take (rows.length - i) (List.drop i rows) = List.drop i rows := List.take_of_length_le (by simp)
    have f7 : ∀ X, List.take i (List.take (i + 1) rows ++ X) = List.take i rows := by intro X; rw [List.take_append_of_le_length (by simp; omega), List.take_take]; congr 1; omega
    have f8 : ∀ X, List.drop (i + 1) (List.take (i + 1) rows ++ X) = X := by intro X; rw [List.drop_append_of_le_length (by simp; omega), List.drop_eq_nil_of_le (by simp; omega)]; rfl
    have c1 : (i : Int) ≤ rows.length + 1 := by omega
    have c2 : 0 ≤ (rows.length : Int) + 1 := by omega
    have c3 : (i : Int) + 1 ≤ rows.length + 1 := by omega
    have c4 : 0 ≤ (i : Int) + 1 := by omega
    have c5 : i + 1 ≤ rows.length + 1 := by omega
    have c6 : i + (rows.length + 1 - i) = rows.length + 1 := by omega
    have c7 : i + 1 + (rows.length + 1 - (i + 1)) = rows.length + 1 := by omega
    have a1 : i ≤ rows.length := by omega
    have a2 : i + k = rows.length + 1 := by omega
    have a3 : rows.length < rows.length + 1 := by omega
    have a4 : rows.length + 1 ≤ 4294967296 := by omega
    have a5 : i ≤ rows.length + 1 := by omega
    have a6 : min i rows.length = i := by omega
    have f3 : ∀ (z : Row), List.drop (i + 1 + (rows.length - i)) (List.take i rows ++ vr :: List.drop (i + 1) (List.take i rows ++ List.replicate k z)) = [] := by intro z; apply List.drop_eq_nil_of_le; simp; omega
    simp [Try.ntmps140, Try.results140, noOrc, Orc.withI, h1', h2', w1, w2, w3, h8, h4, h5, g1, g2, e1, e2, d0, d1, d2, d3, d4, d5, d6, d7, d8, d9, f1, f2, f3,  b1, b2, c1, c2, c3, c4, c5, c6, c7, a1, a2, a3, a4, a5, a6]
  · intro H id vid i cap rows vr jr h1 h2 h3 h4 h5 h6 h7 h8
    refine wpA_sound hC fxMix _ _ _ _ (by kernel_rfl) ?_
    have h1' := obj_get h1
    have h2' := obj_get h2
    have w1 : IntKind.i64.wrap ((rows.length : Int) + 1) = ((rows.length + 1 : Nat) : Int) := by rw [w64 (by omega) (by omega)]; simp
    have w3 : IntKind.i64.wrap ((i : Int) + 1) = ((i + 1 : Nat) : Int) := by rw [w64 (by omega) (by omega)]; simp
    have h9 : ¬ i = rows.length := by omega
    have g1 := (List.getElem?_eq_some_iff.1 h1').2
    have g2 := (List.getElem?_eq_some_iff.1 h2').2
    have b1 : ¬ (i : Int) = rows.length := by omega
    have b2 : ¬ (rows.length : Int) = i := by omega
    have e1 : ∀ l, (H ++ l)[vid]? = some (some (3, [vr])) := by intro l; rw [List.getElem?_append_left h5, h2']
    have e2 : ∀ l, (H ++ l)[id]? = some (some (3, rows ++ [jr])) := by intro l; rw [List.getElem?_append_left h4, h1']
    have d0 : ¬ vid = id := fun h => h3 h.symm
    have d1 : 0 < rows.length - i := by omega
    have d2 : min 1 (rows.length + 1 - i) = 1 := by omega
    have d3 : List.take (rows.length + 1 - i) [vr] = [vr] := List.take_of_length_le (by simp; omega)
    have d4 : rows.length - i ≤ rows.length + 1 - (i + 1) := by omega
    have d5 : min (rows.length - i) (rows.length + 1 - (i + 1)) = rows.length - i := by omega
    have d6 : i + 1 + (rows.length - i) ≤ i + (rows.length - i + 1) := by omega
    have d7 : i + 1 + (rows.length - i) ≤ rows.length + 1 := by omega
    have d8 : min (i + 1) rows.length = i + 1 := by omega
    have d9 : rows.length + 1 ≤ i + 1 + (rows.length - i) := by omega
    have f1 : ∀ X, List.take (i + 1) (List.take i rows ++ vr :: X) = List.take i rows ++ [vr] := by
      intro X
      have hl : (List.take i rows).length = i := by simp; omega
      rw [List.take_append, hl, List.take_of_length_le (by omega)]; simp
    have f2 : List.take (rows.length - i) (List.drop i rows) = List.drop i rows := List.take_of_length_le (by simp)
    have f7 : ∀ X, List.take i (List.take (i + 1) rows ++ X) = List.take i rows := by intro X; rw [List.take_append_of_le_length (by simp; omega), List.take_take]; congr 1; omega
    have f8 : ∀ X, List.drop (i + 1) (List.take (i + 1) rows ++ X) = X := by intro X; rw [List.drop_append_of_le_length (by simp; omega), List.drop_eq_nil_of_le (by simp; omega)]; rfl
    have c1 : (i : Int) ≤ rows.length + 1 := by omega
    have c2 : 0 ≤ (rows.length : Int) + 1 := by omega
    have c3 : (i : Int) + 1 ≤ rows.length + 1 := by omega
    have c4 : 0 ≤ (i : Int) + 1 := by omega
    have c5 : i + 1 ≤ rows.length + 1 := by omega
    have c6 : i + (rows.length + 1 - i) = rows.length + 1 := by omega
    have c7 : i + 1 + (rows.length + 1 - (i + 1)) = rows.length + 1 := by omega
    have a1 : i ≤ rows.length := by omega
    have a3 : ¬ cap < rows.length + 1 := by omega
    have a5 : i ≤ rows.length + 1 := by omega
    have a6 : min i rows.length = i := by omega
    have a7 : (rows.length : Int) + 1 ≤ cap := by omega
    have b3 : ¬ (cap : Int) < rows.length + 1 := by omega
    have a8 : i ≤ cap := by omega
    have f4 : List.take (rows.length - i) (List.take (rows.length + 1 - i) (List.drop i (rows ++ [jr]))) = List.drop i rows := by
      rw [List.take_take, List.drop_append_of_le_length a1, List.take_append_of_le_length (by simp; omega), List.take_of_length_le (by simp; omega)]
    have f5 : List.drop (i + 1 + (rows.length - i)) (rows ++ [jr]) = [] := List.drop_eq_nil_of_le (by simp; omega)
    have f6 : List.take (i + 1) (rows ++ [jr]) = List.take (i + 1) rows := List.take_append_of_le_length (by omega)
    simp [Try.ntmps140, Try.results140, noOrc, Orc.withI, h1', h2', w1, w3, h9, h4, h5, g1, g2, e1, e2, d0, d1, d2, d3, d4, d5, d6, d7, d8, d9, f2, f4, f5, f6, f7, f8, h3, List.getElem_set_ne,  b1, b2, c1, c2, c3, c4, c5, c6, c7, a1, a3, a5, a6, a7, a8, b3]

theorem prDel : InlOk Try.prog 141 (deleteI 3) := by
  refine delete_of (z := [.v (.int .i64 0), .v (.int .i64 0), .v (.int .i64 0)]) Try.func141 rfl (by simp [Try.ntmps141]) ?_
  intro H id i rows h1 h2 h3 h4
  refine wpA_sound noOrc_ok fxMix _ _ _ _ (by kernel_rfl) ?_
  have h1' := obj_get h1
  have g1 := (List.getElem?_eq_some_iff.1 h1').2
  have c1 : (i : Int) + 1 ≤ rows.length := by omega
  have c2 : 0 ≤ (i : Int) + 1 := by omega
  have c3 : (i : Int) ≤ i + 1 := by omega
  have c4 : i ≤ rows.length := by omega
  have c5 : i + 1 ≤ rows.length := by omega
  have c6 : i + 1 + (rows.length - (i + 1)) ≤ rows.length := by omega
  have c7 : i + (rows.length - (i + 1)) ≤ rows.length := by omega
  have c8 : i + (rows.length - (i + 1)) = rows.length - 1 := by omega
  have c9 : rows.length - 1 ≤ rows.length := by omega
  have d1 : ¬ ((i : Int) = i + 1) := by omega
  have d2 : List.take (rows.length - (i + 1)) (List.drop (i + 1) rows) = List.drop (i + 1) rows := List.take_of_length_le (by simp)
  have d3 : rows.length - (rows.length - 1) = 1 := by omega
  have d4 : (rows.length - 1) + 1 = rows.length := by omega
  have d5 : ¬ rows.length = i := by omega
  have d6 : ¬ rows.length = 0 := by omega
  have d7 : rows.length ≤ 4294967296 := by omega
  have d8 : i + (rows.length - (i + 1)) ≤ 4294967296 := by omega
  have f1 : rows.length ≤ 4294967297 := by omega
  have f2 : rows.length ≤ i + (rows.length - (i + 1) + 1) := by omega
  have d9 : ∀ X : List Row, List.take (rows.length - 1) (List.take i rows ++ (List.drop (i + 1) rows ++ X)) = List.take i rows ++ List.drop (i + 1) rows := by
    intro X
    rw [← List.append_assoc, List.take_append_of_le_length (by simp; omega), List.take_of_length_le (by simp; omega)]
  have e1 : List.drop rows.length (List.take i rows ++ (List.drop (i + 1) rows ++ List.drop (rows.length - 1) rows)) = [] := List.drop_eq_nil_of_le (by simp; omega)
  have e2 : rows.length - 1 ≤ i + (rows.length - (i + 1) + 1) := by omega
  have e3 : min i rows.length = i := by omega
  have e4 : ((rows.length - 1 : Nat) : Int) ≤ rows.length := by omega
  simp [Try.ntmps141, Try.results141, noOrc, h1', h2, h3, g1, c1, c2, c3, c4, c5, c6, c7, c8, c9, d1, d2, d3, d4, d5, d6, d7, d8, d9, e1, e2, e3, e4, f1, f2]
theorem prClone : InlOk Try.prog 60 (cloneI 3) := by
  refine inl_soft Try.func60 rfl ?_
  intro args H r H' hr
  rcases cloneI_some hr with ⟨o, rows, rfl, hl, hc⟩ | ⟨id, st, k, kc, rows, rfl, hob, hle, hl, hc⟩ | ⟨rfl, rfl, rfl⟩
  · refine ⟨by simp [Try.ntmps60], wpA_sound noOrc_ok fxMix _ _ _ _ (by kernel_rfl) ?_⟩
    rcases hc with ⟨rfl, rfl, rfl⟩ | ⟨h0, rfl, rfl⟩
    · simp [Try.ntmps60, Try.results60, noOrc]
    · simp [Try.ntmps60, Try.results60, h0, hl, noOrc]
  · refine ⟨by simp [Try.ntmps60], wpA_sound noOrc_ok fxMix _ _ _ _ (by kernel_rfl) ?_⟩
    have hob' := obj_get hob
    have e1 : min k (rows.length - st) = k := by omega
    have e2 : st + k ≤ rows.length := hle
    have e3 : st ≤ rows.length := by omega
    rcases hc with ⟨rfl, rfl, rfl⟩ | ⟨h0, rfl, rfl⟩
    · simp [Try.ntmps60, Try.results60, noOrc, hob', e2, e3]
    · simp [Try.ntmps60, Try.results60, hl, noOrc, hob', e1, e2, h0]
  · refine ⟨by simp [Try.ntmps60], wpA_sound noOrc_ok fxMix _ _ _ _ (by kernel_rfl) ?_⟩
    simp [Try.ntmps60, Try.results60, noOrc]
theorem prEqual_pure : PureOk Try.prog 64 (argM (cSl rPr) fun l => argM (cSl rPr) fun m => finM (if l.length ≤ 4294967296 then some (.v (.bool (decide (l = m)))) else none)) := by
  refine pure2 Try.func64 rfl ?_
  rintro l m r hr
  by_cases hc : l.length ≤ 4294967296
  case neg => rw [if_neg hc] at hr; cases hr
  rw [if_pos hc] at hr
  simp only [Option.some.injEq] at hr
  subst hr
  refine body_gen noOrc_ok fxMix (by kernel_rfl) (by simp [Try.ntmps64]) ?_
  intro C cP cI cN cD cF cA cR cL
  replace cI : C.inl = fun _ => false := cI
  replace cR : C.rd = fun _ => none := cR
  replace cD : C.dyn = fun _ => [] := cD
  clear cP cN cF cA
  simp [Try.ntmps64, Try.results64, cSl, cI, cD, cR, rPr, Pr.row, prDec]
  split
  · rename_i hn
    have hn : l.length = m.length := by omega
    refine loop_for l.length (fun k (_ : Unit) => ([(0, .fsl false 3 (l.map Pr.row)), (1, .fsl false 3 (m.map Pr.row)), (12, .v (.int .i64 l.length)), (13, .v (.int .i64 k))], [])) (fun k _ => l.drop k = m.drop k ↔ l = m) () hc (by simp) (by simp) ?_ ?_
    · intro k _ hk hall hw
      have hk3 : k < m.length := by omega
      rw [List.drop_eq_getElem_cons hk, List.drop_eq_getElem_cons hk3, List.cons.injEq] at hall
      have he := pr_eq l[k] m[k]
      by_cases q2 : l[k] = m[k]
      · have q3 := he.1 q2
        clear he
        simp only [q2, true_and] at hall
        simp [Try.ntmps64, Try.results64, cSl, cI, cD, cR, hk, hk3, hw, rPr, Pr.row, prDec, q3]
        exact hall
      · have hne : ¬ l = m := fun h => q2 (hall.2 h).1
        simp [Try.ntmps64, Try.results64, cSl, cI, cD, cR, hk, hk3, hw, rPr, Pr.row, prDec]
        split
        · exact hne
        · rename_i q
          exact absurd (he.2 (by simp_all)) q2
    · intro _ hall
      simp [hn] at hall
      simp [Try.ntmps64, Try.results64, cSl, cI, cD, cR, hall]
  · rename_i hn
    rintro rfl
    exact hn rfl
def insP (l : List Pr) (p : Pr) : List Pr := l.take (lowP l p) ++ p :: l.drop (lowP l p)
def rmPut (l : List Pr) (p : Pr) : Except Int (List Pr) := if rmChk l p = 0 then (if l.any (·.at p.space p.page) = true then .error 5 else .ok (insP l p)) else .error (rmChk l p)
theorem rmFind_iff (l : List Pr) (s g : Int) : 0 ≤ rmFind l s g ↔ l.any (·.at s g) = true := idxP_iff (p := fun x : Pr => x.at s g) (l := l)
theorem lowP_nil (p : Pr) : lowP [] p = 0 := rfl
theorem rmPut_pure : PureOk Try.prog 69 (argM (cSl rPr) fun l => argM (cAgg rPr) fun p => finM (some (slE 3 Pr.row (rmPut l p)))) := by
  refine pure2 Try.func69 rfl ?_
  rintro l p r hr
  simp only [Option.some.injEq] at hr
  subst hr
  refine body_gen (((((((noOrc_ok.withP rmChk_pure).withP rmFind_pure).withP bs_pure).withIF prClone clone_loc).withIF prIns insert_loc).withD (fun i => if i = 7 then [(1,4),(1,3)] else [])).withA (fun i => if i = 7 then [0,2,3,4,1,5,6,7] else [])) fxMix (by kernel_rfl) (by simp [Try.ntmps69]) ?_
  intro C cP cI cN cD cF cA cR cL
  have cp0 := orcP rmChk_pure (C := C) (by rw [cP]; rfl)
  have cp1 := orcP rmFind_pure (C := C) (by rw [cP]; rfl)
  have cp2 := orcP bs_pure (C := C) (by rw [cP]; rfl)
  have cn0 := orcI prClone (C := C) (by rw [cN]; rfl)
  have cn1 := orcI prIns (C := C) (by rw [cN]; rfl)
  replace cI := fun g => congrFun cI g
  simp only [Orc.withP, Orc.withI, Orc.withF, Orc.withD, Orc.withA, Orc.withR, Orc.withC, noOrc] at cI
  replace cR : C.rd = fun _ => none := cR
  replace cD : C.dyn = fun i => if i = 7 then [(1,4),(1,3)] else [] := cD
  replace cF := fun g => congrFun cF g
  simp only [Orc.withP, Orc.withI, Orc.withF, Orc.withD, Orc.withA, Orc.withR, Orc.withC, noOrc] at cF
  replace cA : C.alt = fun i => if i = 7 then [0,2,3,4,1,5,6,7] else [] := cA
  have rg8 : List.range 8 = [0, 1, 2, 3, 4, 5, 6, 7] := rfl
  clear cP cN
  unfold rmPut
  by_cases h0 : rmChk l p = 0
  · have hg := (rmChk_iff.1 h0).1
    have hck := rmCheck_iff.2 hg
    have hl := hg.len
    have hl2 : l.length ≤ 4294967296 := by omega
    have hl3 : l.length ≤ 1048576 := by omega
    have hle := lowP_le l p
    by_cases h1 : l.any (·.at p.space p.page) = true
    · have h1' := (rmFind_iff l _ _).2 h1
      simp only [h0, if_true, h1]
      simp [Try.ntmps69, Try.results69, cSl, cp0, cp1, cp2, cn0, cn1, cI, cD, cR, cF, cA, rg8, rPr, Pr.row, prDec, h0, hl2, h1', slE]
    · have h1' : ¬ 0 ≤ rmFind l p.space p.page := fun h => h1 ((rmFind_iff _ _ _).1 h)
      simp only [h0, if_true, h1]
      by_cases hn : l = []
      · subst hn
        simp [Try.ntmps69, Try.results69, cSl, cp0, cp1, cp2, cn0, cn1, cI, cD, cR, cF, cA, rg8, rPr, Pr.row, prDec, h0, hck, h1', slE, cloneI, insertI, insP, lowP_nil]
      · have hpos : 0 < l.length := List.length_pos_iff.2 hn
        have hh1 : l.length + 1 ≤ lowP l p + (l.length - lowP l p + 1) := by omega
        have hh2 : ∀ x : Row, List.take (l.length + 1) (List.take (lowP l p) (List.map Pr.row l) ++ x :: List.drop (lowP l p) (List.map Pr.row l)) = List.take (lowP l p) (List.map Pr.row l) ++ x :: List.drop (lowP l p) (List.map Pr.row l) := by
          intro x; apply List.take_of_length_le; simp; omega
        simp [Try.ntmps69, Try.results69, cSl, cp0, cp1, cp2, cn0, cn1, cI, cD, cR, cF, cA, rg8, rPr, Pr.row, prDec, h0, hck, hl2, hl3, h1', slE, cloneI, insertI, insP, hn, hpos, hle, hh1, hh2]
  · simp [Try.ntmps69, Try.results69, cSl, cp0, cp1, cp2, cn0, cn1, cI, cD, cR, cF, cA, rg8, rPr, Pr.row, prDec, h0, slE]
def rmOut (l : List Pr) (s g : Int) : Except Int (List Pr × Int) := if rmChk l ⟨0, s, g⟩ = 0 then (if rmFind l s g < 0 then .error 4 else .ok (l.eraseIdx (rmFind l s g).toNat, (l[(rmFind l s g).toNat]?.getD ⟨0, 0, 0⟩).frame)) else .error (rmChk l ⟨0, s, g⟩)
def rmOutE : Except Int (List Pr × Int) → AVal
  | .ok (l, f) => .tup [.fsl true 3 (l.map Pr.row), .v (.int .i64 f), .v (.int .i64 0)]
  | .error e => .v (.tuple #[.slice none 0 0, .int .i64 0, .int .i64 e])
theorem rmOut_pure : PureOk Try.prog 70 (argM (cSl rPr) fun l => argM (cInt .i64) fun s => argM (cInt .i64) fun g => finM (some (rmOutE (rmOut l s g)))) := by
  refine pure3 Try.func70 rfl ?_
  rintro l s g r hr
  simp only [Option.some.injEq] at hr
  subst hr
  refine body_gen (((((noOrc_ok.withP rmChk_pure).withP rmFind_pure).withIF prClone clone_loc).withIF prDel delete_loc).withD (fun i => if i = 7 then [(1,10),(5,10)] else [])) fxMix (by kernel_rfl) (by simp [Try.ntmps70]) ?_
  intro C cP cI cN cD cF cA cR cL
  have cp0 := orcP rmChk_pure (C := C) (by rw [cP]; rfl)
  have cp1 := orcP rmFind_pure (C := C) (by rw [cP]; rfl)
  have cn0 := orcI prClone (C := C) (by rw [cN]; rfl)
  have cn1 := orcI prDel (C := C) (by rw [cN]; rfl)
  replace cI := fun g => congrFun cI g
  simp only [Orc.withP, Orc.withI, Orc.withF, Orc.withD, Orc.withA, Orc.withR, Orc.withC, noOrc] at cI
  replace cR : C.rd = fun _ => none := cR
  replace cD : C.dyn = fun i => if i = 7 then [(1,10),(5,10)] else [] := cD
  replace cF := fun g => congrFun cF g
  simp only [Orc.withP, Orc.withI, Orc.withF, Orc.withD, Orc.withA, Orc.withR, Orc.withC, noOrc] at cF
  replace cA : C.alt = fun _ => [] := cA
  clear cP cN
  unfold rmOut
  by_cases h0 : rmChk l ⟨0, s, g⟩ = 0
  · have hg := (rmChk_iff.1 h0).1
    have hl := hg.len
    have hl2 : l.length ≤ 4294967296 := by omega
    have hl3 : l.length ≤ 1048576 := by omega
    by_cases h1 : rmFind l s g < 0
    · simp [Try.ntmps70, Try.results70, cSl, cp0, cp1, cn0, cn1, cI, cD, cR, cF, cA, rPr, Pr.row, prDec, h0, hl2, h1, rmOutE]
    · obtain ⟨k, hk, hkl, _⟩ := idxP_some h1
      replace hk : rmFind l s g = k := hk
      have hk0 : ¬ (k : Int) < 0 := by omega
      have hn : l ≠ [] := by intro h; subst h; simp at hkl
      have hpos : 0 < l.length := by omega
      have hw : IntKind.i64.wrap ((k : Int) + 1) = (k : Int) + 1 := w64 (by omega) (by omega)
      have he : (List.map Pr.row l).eraseIdx k = List.map Pr.row (l.eraseIdx k) := by simp [List.eraseIdx_eq_take_drop_succ]
      have hel : (l.eraseIdx k).length = l.length - 1 := List.length_eraseIdx_of_lt hkl
      have hel2 : l.length ≤ l.length - 1 + 1 := by omega
      have het : List.take (l.length - 1) (List.map Pr.row (l.eraseIdx k)) = List.map Pr.row (l.eraseIdx k) := List.take_of_length_le (by simp [hel])
      simp [Try.ntmps70, Try.results70, cSl, cp0, cp1, cn0, cn1, cI, cD, cR, cF, cA, he, hel, hel2, het, rPr, Pr.row, prDec, h0, hl2, hl3, hk, hk0, hkl, hn, hpos, hw, rmOutE, cloneI, deleteI]
  · simp [Try.ntmps70, Try.results70, cSl, cp0, cp1, cn0, cn1, cI, cD, cR, cF, cA, rPr, Pr.row, prDec, h0, rmOutE]
def rmWhere (l : List Pr) (s g : Int) : Int × Int := if rmChk l ⟨0, s, g⟩ = 0 then (if rmFind l s g < 0 then (-1, 0) else ((l[(rmFind l s g).toNat]?.getD ⟨0, 0, 0⟩).frame, 0)) else (0, rmChk l ⟨0, s, g⟩)
end
section
structure Pg where
  b0 : Int
  b1 : Int
  b2 : Int
  b3 : Int
  b4 : Int
  b5 : Int
  b6 : Int
  b7 : Int
  b8 : Int
  b9 : Int
  b10 : Int
  b11 : Int
  b12 : Int
  b13 : Int
  b14 : Int
  b15 : Int
  deriving DecidableEq
def pgDec : Row → Option Pg
  | [.v (.int .u8 x0), .v (.int .u8 x1), .v (.int .u8 x2), .v (.int .u8 x3), .v (.int .u8 x4), .v (.int .u8 x5), .v (.int .u8 x6), .v (.int .u8 x7), .v (.int .u8 x8), .v (.int .u8 x9), .v (.int .u8 x10), .v (.int .u8 x11), .v (.int .u8 x12), .v (.int .u8 x13), .v (.int .u8 x14), .v (.int .u8 x15)] => some ⟨x0, x1, x2, x3, x4, x5, x6, x7, x8, x9, x10, x11, x12, x13, x14, x15⟩
  | _ => none
def Pg.row (e : Pg) : Row := [.v (.int .u8 e.b0), .v (.int .u8 e.b1), .v (.int .u8 e.b2), .v (.int .u8 e.b3), .v (.int .u8 e.b4), .v (.int .u8 e.b5), .v (.int .u8 e.b6), .v (.int .u8 e.b7), .v (.int .u8 e.b8), .v (.int .u8 e.b9), .v (.int .u8 e.b10), .v (.int .u8 e.b11), .v (.int .u8 e.b12), .v (.int .u8 e.b13), .v (.int .u8 e.b14), .v (.int .u8 e.b15)]
def rPg : RCod Pg := RCod.plain 16 Pg.row pgDec
  (fun e => rfl) (fun _ => rfl) (fun r e h => by
    unfold pgDec at h
    split at h
    · simp at h; subst h; rfl
    · cases h)
def Pg.val (e : Pg) : Value := .agg #[.int .u8 e.b0, .int .u8 e.b1, .int .u8 e.b2, .int .u8 e.b3, .int .u8 e.b4, .int .u8 e.b5, .int .u8 e.b6, .int .u8 e.b7, .int .u8 e.b8, .int .u8 e.b9, .int .u8 e.b10, .int .u8 e.b11, .int .u8 e.b12, .int .u8 e.b13, .int .u8 e.b14, .int .u8 e.b15]
theorem Pg.eta (e : Pg) : Pg.mk e.b0 e.b1 e.b2 e.b3 e.b4 e.b5 e.b6 e.b7 e.b8 e.b9 e.b10 e.b11 e.b12 e.b13 e.b14 e.b15 = e := rfl
attribute [local simp] Pg.eta
theorem Pg.cold (l : List Pg) : coldR (l.map Pg.row) = l.map Pg.row := by
  induction l with
  | nil => simp [coldR]
  | cons e l ih => simp [coldR, coldC, AI.cold, ih, Pg.row]
theorem Pg.mapM (l : List Pg) : (l.map Pg.row).mapM pgDec = some l := mapM_dec rPg l
theorem Pg.mapMc (l : List Pg) : l.mapM (pgDec ∘ Pg.row) = some l := mapM_dec' rPg l
theorem Pg.view (H : Heap) (n : Nat) (e : Pg) : List.map (AI.view H n) e.row = e.row := by cases n <;> simp [Pg.row, AI.view]
theorem Pg.viewc (H : Heap) (n : Nat) : List.map (AI.view H n) ∘ Pg.row = Pg.row := by funext e; exact Pg.view H n e
theorem Pg.hotR (l : List Pg) : AI.hotR (l.map Pg.row) = true := by
  induction l with
  | nil => simp [AI.hotR]
  | cons e l ih => simp [AI.hotR, hotC, hot, ih, Pg.row]
theorem Pg.ren (n : Nat) (th : List Nat) (e : Pg) : List.map (AI.ren n th) e.row = e.row := by simp [Pg.row, AI.ren]
theorem Pg.renc (n : Nat) (th : List Nat) : List.map (AI.ren n th) ∘ Pg.row = Pg.row := by funext e; exact Pg.ren n th e
theorem Pg.low (n : Nat) (e : Pg) : e.row.all (lowA n) = true := by simp [Pg.row, lowA]
theorem Pg.tau (fp : List Nat) (n : Nat) (e : Pg) : List.map (AI.tau fp n) e.row = e.row := by simp [Pg.row, AI.tau]
theorem Pg.tauc (fp : List Nat) (n : Nat) : List.map (AI.tau fp n) ∘ Pg.row = Pg.row := by funext e; exact Pg.tau fp n e
theorem Pg.bare (e : Pg) : e.row.all bareA = true := by simp [Pg.row, bareA]
theorem Pg.flat (l : List Pg) : flat0 (l.map Pg.row) = true := by simp [flat0, Pg.low]
theorem Pg.flat1 (e : Pg) : flat0 [e.row] = true := by simp [flat0, Pg.low]
theorem Pg.exact : Exact rPg := by
  intro r e h
  simp only [rPg, RCod.plain] at h ⊢
  unfold pgDec at h
  split at h
  · simp at h; subst h; rfl
  · cases h
theorem Pg.mapMt (k : Nat) (l : List Pg) : (List.take k (l.map Pg.row)).mapM pgDec = some (l.take k) := by rw [← List.map_take]; exact mapM_dec rPg _
theorem Pg.mapMd (k : Nat) (l : List Pg) : (List.drop k (l.map Pg.row)).mapM pgDec = some (l.drop k) := by rw [← List.map_drop]; exact mapM_dec rPg _
theorem Pg.coldt (k : Nat) (l : List Pg) : coldR (List.take k (l.map Pg.row)) = List.take k (l.map Pg.row) := by rw [← List.map_take]; exact Pg.cold _
theorem Pg.coldd (k : Nat) (l : List Pg) : coldR (List.drop k (l.map Pg.row)) = List.drop k (l.map Pg.row) := by rw [← List.map_drop]; exact Pg.cold _
theorem Pg.hotRt (k : Nat) (l : List Pg) : AI.hotR (List.take k (l.map Pg.row)) = true := by rw [← List.map_take]; exact Pg.hotR _
theorem Pg.hotRd (k : Nat) (l : List Pg) : AI.hotR (List.drop k (l.map Pg.row)) = true := by rw [← List.map_drop]; exact Pg.hotR _
attribute [local simp] Pg.hotRt Pg.hotRd
attribute [local simp] Pg.tau Pg.tauc Pg.bare Pg.flat Pg.flat1 Pg.mapMt Pg.mapMd Pg.coldt Pg.coldd
attribute [local simp] Pg.cold Pg.mapM Pg.mapMc Pg.view Pg.viewc Pg.hotR Pg.ren Pg.renc Pg.low
structure Slot where
  many : Int
  data : Pg
  deriving DecidableEq
def slotDec : Row → Option Slot
  | [.v (.int .i64 x0), .v (.int .u8 x1), .v (.int .u8 x2), .v (.int .u8 x3), .v (.int .u8 x4), .v (.int .u8 x5), .v (.int .u8 x6), .v (.int .u8 x7), .v (.int .u8 x8), .v (.int .u8 x9), .v (.int .u8 x10), .v (.int .u8 x11), .v (.int .u8 x12), .v (.int .u8 x13), .v (.int .u8 x14), .v (.int .u8 x15), .v (.int .u8 x16)] => some ⟨x0, ⟨x1, x2, x3, x4, x5, x6, x7, x8, x9, x10, x11, x12, x13, x14, x15, x16⟩⟩
  | _ => none
def Slot.row (e : Slot) : Row := [.v (.int .i64 e.many), .v (.int .u8 e.data.b0), .v (.int .u8 e.data.b1), .v (.int .u8 e.data.b2), .v (.int .u8 e.data.b3), .v (.int .u8 e.data.b4), .v (.int .u8 e.data.b5), .v (.int .u8 e.data.b6), .v (.int .u8 e.data.b7), .v (.int .u8 e.data.b8), .v (.int .u8 e.data.b9), .v (.int .u8 e.data.b10), .v (.int .u8 e.data.b11), .v (.int .u8 e.data.b12), .v (.int .u8 e.data.b13), .v (.int .u8 e.data.b14), .v (.int .u8 e.data.b15)]
def rSlot : RCod Slot := RCod.plain 17 Slot.row slotDec
  (fun e => rfl) (fun _ => rfl) (fun r e h => by
    unfold slotDec at h
    split at h
    · simp at h; subst h; rfl
    · cases h)
def Slot.val (e : Slot) : Value := .agg #[.int .i64 e.many, .int .u8 e.data.b0, .int .u8 e.data.b1, .int .u8 e.data.b2, .int .u8 e.data.b3, .int .u8 e.data.b4, .int .u8 e.data.b5, .int .u8 e.data.b6, .int .u8 e.data.b7, .int .u8 e.data.b8, .int .u8 e.data.b9, .int .u8 e.data.b10, .int .u8 e.data.b11, .int .u8 e.data.b12, .int .u8 e.data.b13, .int .u8 e.data.b14, .int .u8 e.data.b15]
theorem Slot.eta (e : Slot) : Slot.mk e.many e.data = e := rfl
attribute [local simp] Slot.eta
theorem Slot.cold (l : List Slot) : coldR (l.map Slot.row) = l.map Slot.row := by
  induction l with
  | nil => simp [coldR]
  | cons e l ih => simp [coldR, coldC, AI.cold, ih, Slot.row]
theorem Slot.mapM (l : List Slot) : (l.map Slot.row).mapM slotDec = some l := mapM_dec rSlot l
theorem Slot.mapMc (l : List Slot) : l.mapM (slotDec ∘ Slot.row) = some l := mapM_dec' rSlot l
theorem Slot.view (H : Heap) (n : Nat) (e : Slot) : List.map (AI.view H n) e.row = e.row := by cases n <;> simp [Slot.row, AI.view]
theorem Slot.viewc (H : Heap) (n : Nat) : List.map (AI.view H n) ∘ Slot.row = Slot.row := by funext e; exact Slot.view H n e
theorem Slot.hotR (l : List Slot) : AI.hotR (l.map Slot.row) = true := by
  induction l with
  | nil => simp [AI.hotR]
  | cons e l ih => simp [AI.hotR, hotC, hot, ih, Slot.row]
theorem Slot.ren (n : Nat) (th : List Nat) (e : Slot) : List.map (AI.ren n th) e.row = e.row := by simp [Slot.row, AI.ren]
theorem Slot.renc (n : Nat) (th : List Nat) : List.map (AI.ren n th) ∘ Slot.row = Slot.row := by funext e; exact Slot.ren n th e
theorem Slot.low (n : Nat) (e : Slot) : e.row.all (lowA n) = true := by simp [Slot.row, lowA]
theorem Slot.tau (fp : List Nat) (n : Nat) (e : Slot) : List.map (AI.tau fp n) e.row = e.row := by simp [Slot.row, AI.tau]
theorem Slot.tauc (fp : List Nat) (n : Nat) : List.map (AI.tau fp n) ∘ Slot.row = Slot.row := by funext e; exact Slot.tau fp n e
theorem Slot.bare (e : Slot) : e.row.all bareA = true := by simp [Slot.row, bareA]
theorem Slot.flat (l : List Slot) : flat0 (l.map Slot.row) = true := by simp [flat0, Slot.low]
theorem Slot.flat1 (e : Slot) : flat0 [e.row] = true := by simp [flat0, Slot.low]
theorem Slot.exact : Exact rSlot := by
  intro r e h
  simp only [rSlot, RCod.plain] at h ⊢
  unfold slotDec at h
  split at h
  · simp at h; subst h; rfl
  · cases h
theorem Slot.mapMt (k : Nat) (l : List Slot) : (List.take k (l.map Slot.row)).mapM slotDec = some (l.take k) := by rw [← List.map_take]; exact mapM_dec rSlot _
theorem Slot.mapMd (k : Nat) (l : List Slot) : (List.drop k (l.map Slot.row)).mapM slotDec = some (l.drop k) := by rw [← List.map_drop]; exact mapM_dec rSlot _
theorem Slot.coldt (k : Nat) (l : List Slot) : coldR (List.take k (l.map Slot.row)) = List.take k (l.map Slot.row) := by rw [← List.map_take]; exact Slot.cold _
theorem Slot.coldd (k : Nat) (l : List Slot) : coldR (List.drop k (l.map Slot.row)) = List.drop k (l.map Slot.row) := by rw [← List.map_drop]; exact Slot.cold _
theorem Slot.hotRt (k : Nat) (l : List Slot) : AI.hotR (List.take k (l.map Slot.row)) = true := by rw [← List.map_take]; exact Slot.hotR _
theorem Slot.hotRd (k : Nat) (l : List Slot) : AI.hotR (List.drop k (l.map Slot.row)) = true := by rw [← List.map_drop]; exact Slot.hotR _
attribute [local simp] Slot.hotRt Slot.hotRd
attribute [local simp] Slot.tau Slot.tauc Slot.bare Slot.flat Slot.flat1 Slot.mapMt Slot.mapMd Slot.coldt Slot.coldd
attribute [local simp] Slot.cold Slot.mapM Slot.mapMc Slot.view Slot.viewc Slot.hotR Slot.ren Slot.renc Slot.low
def noPg : Pg := ⟨0, 0, 0, 0, 0, 0, 0, 0, 0, 0, 0, 0, 0, 0, 0, 0⟩
def noSlot : Slot := ⟨0, noPg⟩
theorem pg_eq (a b : Pg) : a = b ↔ (a.b0 = b.b0 ∧ a.b1 = b.b1 ∧ a.b2 = b.b2 ∧ a.b3 = b.b3 ∧ a.b4 = b.b4 ∧ a.b5 = b.b5 ∧ a.b6 = b.b6 ∧ a.b7 = b.b7 ∧ a.b8 = b.b8 ∧ a.b9 = b.b9 ∧ a.b10 = b.b10 ∧ a.b11 = b.b11 ∧ a.b12 = b.b12 ∧ a.b13 = b.b13 ∧ a.b14 = b.b14 ∧ a.b15 = b.b15) := by cases a; cases b; simp
theorem slot_eq (a b : Slot) : a = b ↔ (a.many = b.many ∧ a.data.b0 = b.data.b0 ∧ a.data.b1 = b.data.b1 ∧ a.data.b2 = b.data.b2 ∧ a.data.b3 = b.data.b3 ∧ a.data.b4 = b.data.b4 ∧ a.data.b5 = b.data.b5 ∧ a.data.b6 = b.data.b6 ∧ a.data.b7 = b.data.b7 ∧ a.data.b8 = b.data.b8 ∧ a.data.b9 = b.data.b9 ∧ a.data.b10 = b.data.b10 ∧ a.data.b11 = b.data.b11 ∧ a.data.b12 = b.data.b12 ∧ a.data.b13 = b.data.b13 ∧ a.data.b14 = b.data.b14 ∧ a.data.b15 = b.data.b15) := by cases a; cases b; simp [pg_eq]

def Slot.chk (s : Slot) : Int := if s.many < 0 ∨ 1024 < s.many then 1 else if s.many = 0 ∧ ¬ s = noSlot then 3 else 0
def swAll : List Slot → Int
  | [] => 0
  | f :: r => if f.chk = 0 then swAll r else f.chk
def swCheck (l : List Slot) : Int := if 64 < l.length then 2 else swAll l

theorem swCheck_pure : PureOk Try.prog 147 (argM (cSl rSlot) fun l => finM (some (.v (.int .i64 (swCheck l))))) := by
  refine pure1 Try.func147 rfl ?_
  rintro l r hr
  simp only [Option.some.injEq] at hr
  subst hr
  refine body_gen noOrc_ok fxMix (by kernel_rfl) (by simp [Try.ntmps147]) ?_
  intro C cP cI cN cD cF cA cR cL
  replace cI : C.inl = fun _ => false := cI
  replace cR : C.rd = fun _ => none := cR
  replace cD : C.dyn = fun _ => [] := cD
  clear cP cN cF cA
  simp [Try.ntmps147, Try.results147, cSl, cI, cD, cR, rSlot]
  unfold swCheck
  split
  · rename_i h; simp [show 64 < l.length by omega]
  · rename_i h
    rw [if_neg (by omega)]
    refine loop_for l.length (fun k (_ : Unit) => ([(8, .fsl false 17 (l.map Slot.row)), (9, .v (.int .i64 l.length)), (10, .v (.int .i64 k))], [])) (fun k _ => swAll (l.drop k) = swAll l) () (by omega) (by simp) (by simp) ?_ ?_
    · intro k _ hk hall hw
      have hd : swAll (l.drop k) = if l[k].chk = 0 then swAll (l.drop (k + 1)) else l[k].chk := by
        rw [List.drop_eq_getElem_cons hk]; rfl
      rw [hd] at hall
      have he := slot_eq l[k] noSlot
      simp only [noSlot, noPg] at he
      simp [Try.ntmps147, Try.results147, cSl, cI, cD, cR, hk, hw, Slot.row]
      generalize hx : l[k] = x at *
      unfold Slot.chk at hall
      by_cases q1 : x.many < 0 ∨ 1024 < x.many
      · simp [q1] at hall ⊢
        exact hall
      · by_cases q2 : x.many = 0 ∧ ¬ x = noSlot
        · simp [q1, q2] at hall ⊢
          have q4 := fun h => q2.2 (he.2 h)
          simp [q2.1] at q4
          intros
          simp_all
        · simp only [q1, q2, if_false, if_true] at hall ⊢
          rw [← hall]
          rw [not_and, Classical.not_not] at q2
          split
          · rename_i q3
            have := he.1 (q2 q3.1)
            simp_all
          · rfl
    · intro _ hall
      simp [swAll] at hall
      simp [Try.ntmps147, Try.results147, cSl, cI, cD, cR, hall]
end
section
attribute [local simp] Pg.eta Pg.cold Pg.mapM Pg.mapMc Pg.view Pg.viewc Pg.hotR Pg.ren Pg.renc Pg.low Pg.tau Pg.tauc Pg.bare Pg.flat Pg.flat1 Pg.mapMt Pg.mapMd Pg.coldt Pg.coldd Pg.hotRt Pg.hotRd
attribute [local simp] Slot.eta Slot.cold Slot.mapM Slot.mapMc Slot.view Slot.viewc Slot.hotR Slot.ren Slot.renc Slot.low Slot.tau Slot.tauc Slot.bare Slot.flat Slot.flat1 Slot.mapMt Slot.mapMd Slot.coldt Slot.coldd Slot.hotRt Slot.hotRd
theorem swClone_inl : InlOk Try.prog 62 (cloneI 17) := by
  refine inl_soft Try.func62 rfl ?_
  intro args H r H' hr
  rcases cloneI_some hr with ⟨o, rows, rfl, hl, hc⟩ | ⟨id, st, k, kc, rows, rfl, hob, hle, hl, hc⟩ | ⟨rfl, rfl, rfl⟩
  · refine ⟨by simp [Try.ntmps62], wpA_sound noOrc_ok fxMix _ _ _ _ (by kernel_rfl) ?_⟩
    rcases hc with ⟨rfl, rfl, rfl⟩ | ⟨h0, rfl, rfl⟩
    · simp [Try.ntmps62, Try.results62, noOrc]
    · simp [Try.ntmps62, Try.results62, h0, hl, noOrc]
  · refine ⟨by simp [Try.ntmps62], wpA_sound noOrc_ok fxMix _ _ _ _ (by kernel_rfl) ?_⟩
    have hob' := obj_get hob
    have e1 : min k (rows.length - st) = k := by omega
    have e2 : st + k ≤ rows.length := hle
    have e3 : st ≤ rows.length := by omega
    rcases hc with ⟨rfl, rfl, rfl⟩ | ⟨h0, rfl, rfl⟩
    · simp [Try.ntmps62, Try.results62, noOrc, hob', e2, e3]
    · simp [Try.ntmps62, Try.results62, hl, noOrc, hob', e1, e2, h0]
  · refine ⟨by simp [Try.ntmps62], wpA_sound noOrc_ok fxMix _ _ _ _ (by kernel_rfl) ?_⟩
    simp [Try.ntmps62, Try.results62, noOrc]
def Slot.free (s : Slot) : Bool := s.many == 0
theorem free_pure : PureOk Try.prog 149 (argM (cAgg rSlot) fun s => finM (some (.v (.bool s.free)))) := by
  refine pure1 Try.func149 rfl ?_
  rintro s r hr
  simp only [Option.some.injEq] at hr
  subst hr
  refine body_gen noOrc_ok fxMix (by kernel_rfl) (by simp [Try.ntmps149]) ?_
  intro C cP cI cN cD cF cA cR cL
  replace cI : C.inl = fun _ => false := cI
  replace cR : C.rd = fun _ => none := cR
  replace cD : C.dyn = fun _ => [] := cD
  clear cP cN cF cA
  simp [Try.ntmps149, Try.results149, cSl, cI, cD, cR, rSlot, Slot.row, slotDec, Slot.free]
theorem swIdx_pure : PureOk Try.prog 148 (argM (cSl rSlot) fun l => argM (cFn 149 rNil) fun cp => finM (if l.length ≤ 4294967296 then some (.v (.int .i64 (idxP (Slot.free) l))) else none)) := by
  refine pure2 Try.func148 rfl ?_
  rintro l cp r hr
  by_cases hc : l.length ≤ 4294967296
  case neg => rw [if_neg hc] at hr; cases hr
  rw [if_pos hc] at hr
  simp only [Option.some.injEq] at hr
  subst hr
  refine body_gen (noOrc_ok.withP free_pure) fxMix (by kernel_rfl) (by simp [Try.ntmps148]) ?_
  intro C cP cI cN cD cF cA cR cL
  have cp0 := orcP free_pure (C := C) (by rw [cP]; rfl)
  replace cI : C.inl = fun _ => false := cI
  replace cR : C.rd = fun _ => none := cR
  replace cD : C.dyn = fun _ => [] := cD
  clear cP cN cF cA
  simp [Try.ntmps148, Try.results148, cSl, cp0, cI, cD, cR, rSlot, Slot.row, slotDec]
  refine loop_for l.length (fun k (_ : Unit) => ([(0, .fsl false 17 (l.map Slot.row)), (1, .fn 149 []), (7, .v (.int .i64 l.length)), (8, .v (.int .i64 k))], [])) (fun k _ => ((l.drop k).findIdx? (Slot.free)).map (· + k) = l.findIdx? (Slot.free)) () hc (by simp) (by simp [rSlot, Slot.row, slotDec]) ?_ ?_
  · intro k _ hk hall hw
    by_cases q : (Slot.free) l[k] = true
    · rw [find_drop hk, if_pos q] at hall
      try simp at q
      simp [Try.ntmps148, Try.results148, cSl, cp0, cI, cD, cR, hk, hw, rSlot, Slot.row, slotDec, q, idxP, ← hall]
    · rw [find_drop hk, if_neg q] at hall
      try simp at q
      simp [Try.ntmps148, Try.results148, cSl, cp0, cI, cD, cR, hk, hw, rSlot, Slot.row, slotDec, q]
      simpa using hall
  · intro _ hall
    simp at hall
    simp [Try.ntmps148, Try.results148, cSl, cp0, cI, cD, cR, idxP, ← hall]

theorem swAll_get {l : List Slot} {s : Slot} (h : swAll l = 0) (hs : s ∈ l) : s.chk = 0 := by
  induction l with
  | nil => simp at hs
  | cons g l ih =>
    simp only [swAll] at h
    split at h
    · rename_i hg
      rcases List.mem_cons.1 hs with rfl | hs
      · exact hg
      · exact ih h hs
    · rename_i hg; exact absurd h hg
theorem swAll_of {l : List Slot} (h : ∀ s ∈ l, s.chk = 0) : swAll l = 0 := by
  induction l with
  | nil => rfl
  | cons g l ih => simp [swAll, h g (by simp), ih (fun s hs => h s (by simp [hs]))]
theorem swCheck_iff {l : List Slot} : swCheck l = 0 ↔ l.length ≤ 64 ∧ ∀ s ∈ l, s.chk = 0 := by
  unfold swCheck
  split
  · rename_i h; simp; intro; omega
  · rename_i h; exact ⟨fun h2 => ⟨by omega, fun s hs => swAll_get h2 hs⟩, fun h2 => swAll_of h2.2⟩
theorem slot_ok {s : Slot} : s.chk = 0 ↔ 0 ≤ s.many ∧ s.many ≤ 1024 ∧ (s.many = 0 → s = noSlot) := by
  unfold Slot.chk
  split
  · rename_i h; simp; omega
  · split
    · rename_i h1 h2; simp [h2]
    · rename_i h1 h2
      simp
      refine ⟨by omega, by omega, fun h => ?_⟩
      exact Classical.byContradiction fun hn => h2 ⟨h, hn⟩

/-- swap.Put -/
def swPut (l : List Slot) (d : Pg) (many : Int) : Except Int (List Slot × Nat) :=
  if swCheck l = 0 then
    if many < 1 ∨ 1024 < many then .error 1
    else match l.findIdx? Slot.free with
      | some k => .ok (l.set k ⟨many, d⟩, k)
      | none => .error 6
  else .error (swCheck l)
def putE : Except Int (List Slot × Nat) → AVal
  | .ok (l, k) => .tup [.fsl true 17 (l.map Slot.row), .v (.int .i64 k), .v (.int .i64 0)]
  | .error e => .v (.tuple #[.slice none 0 0, .int .i64 0, .int .i64 e])

theorem swPut_pure : PureOk Try.prog 75 (argM (cSl rSlot) fun l => argM (cAgg rPg) fun d => argM (cInt .i64) fun many => finM (some (putE (swPut l d many)))) := by
  refine pure3 Try.func75 rfl ?_
  rintro l d many r hr
  simp only [Option.some.injEq] at hr
  subst hr
  refine body_gen (((noOrc_ok.withP swCheck_pure).withP swIdx_pure).withI swClone_inl) fxMix (by kernel_rfl) (by simp [Try.ntmps75]) ?_
  intro C cP cI cN cD cF cA cR cL
  have cp0 := orcP swCheck_pure (C := C) (by rw [cP]; rfl)
  have cp1 := orcP swIdx_pure (C := C) (by rw [cP]; rfl)
  have cn0 := orcI swClone_inl (C := C) (by rw [cN]; rfl)
  replace cI := fun g => congrFun cI g
  simp only [Orc.withP, Orc.withI, Orc.withF, Orc.withD, Orc.withA, Orc.withR, Orc.withC, noOrc] at cI
  replace cR : C.rd = fun _ => none := cR
  replace cD : C.dyn = fun _ => [] := cD
  clear cP cN cF cA
  unfold swPut
  by_cases h0 : swCheck l = 0
  · obtain ⟨g1, g2⟩ := swCheck_iff.1 h0
    have hl : l.length ≤ 4294967296 := by omega
    by_cases h1 : many < 1 ∨ 1024 < many
    · simp [Try.ntmps75, Try.results75, cSl, cp0, cp1, cn0, cI, cD, cR, rSlot, rPg, Pg.row, h0, h1, putE]
    · cases h2 : l.findIdx? Slot.free with
      | none => simp [Try.ntmps75, Try.results75, cSl, cp0, cp1, cn0, cI, cD, cR, rSlot, rPg, Pg.row, h0, h1, hl, idxP, h2, putE]
      | some k =>
        obtain ⟨hk, _, _⟩ := List.findIdx?_eq_some_iff_getElem.1 h2
        have hne : ¬ l = [] := by rintro rfl; simp at hk
        simp [Try.ntmps75, Try.results75, cSl, cp0, cp1, cn0, cI, cD, cR, rSlot, rPg, Pg.row, h0, h1, hl, idxP, h2, hk, hne, putE, cloneI, Slot.row]
  · simp [Try.ntmps75, Try.results75, cSl, cp0, cp1, cn0, cI, cD, cR, rSlot, rPg, Pg.row, h0, putE]

/-- swap.used -/
def swGet (l : List Slot) (k : Int) : Slot := l[k.toNat]?.getD noSlot
def swUsed (l : List Slot) (k : Int) : Int := if swCheck l = 0 then (if (k < 0 ∨ (l.length : Int) ≤ k) ∨ (swGet l k).many = 0 then 4 else 0) else swCheck l
theorem swUsed_pure : PureOk Try.prog 150 (argM (cSl rSlot) fun l => argM (cInt .i64) fun k => finM (some (.v (.int .i64 (swUsed l k))))) := by
  refine pure2 Try.func150 rfl ?_
  rintro l k r hr
  simp only [Option.some.injEq] at hr
  subst hr
  refine body_gen (noOrc_ok.withP swCheck_pure) fxMix (by kernel_rfl) (by simp [Try.ntmps150]) ?_
  intro C cP cI cN cD cF cA cR cL
  have cp0 := orcP swCheck_pure (C := C) (by rw [cP]; rfl)
  replace cI : C.inl = fun _ => false := cI
  replace cR : C.rd = fun _ => none := cR
  replace cD : C.dyn = fun _ => [] := cD
  clear cP cN cF cA
  unfold swUsed
  by_cases h0 : swCheck l = 0
  · by_cases h1 : k < 0 ∨ (l.length : Int) ≤ k
    · have h3 : ¬ (0 ≤ k ∧ k < (l.length : Int)) := by omega
      by_cases h4 : k < 0
      · simp [Try.ntmps150, Try.results150, cSl, cp0, cI, cD, cR, rSlot, h0, h1, h3, h4]
      · have h5 : (l.length : Int) ≤ k := by omega
        simp [Try.ntmps150, Try.results150, cSl, cp0, cI, cD, cR, rSlot, h0, h1, h3, h4, h5]
    · have h2 : k.toNat < l.length := by omega
      have h3 : 0 ≤ k := by omega
      have h4 : k < l.length := by omega
      have h5 : ¬ k < 0 := by omega
      have h6 : ¬ (l.length : Int) ≤ k := by omega
      simp [Try.ntmps150, Try.results150, cSl, cp0, cI, cD, cR, rSlot, h0, h1, h2, h3, h4, h5, h6, swGet, Slot.row]
  · simp [Try.ntmps150, Try.results150, cSl, cp0, cI, cD, cR, rSlot, h0]
theorem swUsed_ok {l : List Slot} {k : Int} : swUsed l k = 0 ↔ swCheck l = 0 ∧ 0 ≤ k ∧ k < l.length ∧ ¬ (swGet l k).many = 0 := by
  unfold swUsed
  split
  · rename_i h
    split
    · simp; omega
    · simp [h]; omega
  · rename_i h; simp [h]

/-- swap.More -/
def swMore (l : List Slot) (k n : Int) : Except Int (List Slot × Bool) :=
  if swUsed l k = 0 then
    if n < - (swGet l k).many ∨ 1024 - (swGet l k).many < n then .error 1
    else .ok (l.set k.toNat (if (swGet l k).many + n = 0 then noSlot else ⟨(swGet l k).many + n, (swGet l k).data⟩), (swGet l k).many + n == 0)
  else .error (swUsed l k)
def moreE : Except Int (List Slot × Bool) → AVal
  | .ok (l, b) => .tup [.fsl true 17 (l.map Slot.row), .v (.bool b), .v (.int .i64 0)]
  | .error e => .v (.tuple #[.slice none 0 0, .bool false, .int .i64 e])
theorem swGet_ok {l : List Slot} {k : Int} (h : swUsed l k = 0) : (swGet l k).chk = 0 := by
  obtain ⟨g1, g2, g3, g4⟩ := swUsed_ok.1 h
  have h2 : k.toNat < l.length := by omega
  have : swGet l k = l[k.toNat] := by simp [swGet, h2]
  rw [this]
  exact (swCheck_iff.1 g1).2 _ (List.getElem_mem h2)

theorem swMore_pure : PureOk Try.prog 76 (argM (cSl rSlot) fun l => argM (cInt .i64) fun k => argM (cInt .i64) fun n => finM (some (moreE (swMore l k n)))) := by
  refine pure3 Try.func76 rfl ?_
  rintro l k n r hr
  simp only [Option.some.injEq] at hr
  subst hr
  refine body_gen ((noOrc_ok.withP swUsed_pure).withI swClone_inl) fxMix (by kernel_rfl) (by simp [Try.ntmps76]) ?_
  intro C cP cI cN cD cF cA cR cL
  have cp0 := orcP swUsed_pure (C := C) (by rw [cP]; rfl)
  have cn0 := orcI swClone_inl (C := C) (by rw [cN]; rfl)
  replace cI := fun g => congrFun cI g
  simp only [Orc.withP, Orc.withI, Orc.withF, Orc.withD, Orc.withA, Orc.withR, Orc.withC, noOrc] at cI
  replace cR : C.rd = fun _ => none := cR
  replace cD : C.dyn = fun _ => [] := cD
  clear cP cN cF cA
  unfold swMore
  by_cases h0 : swUsed l k = 0
  · obtain ⟨g1, g2, g3, g4⟩ := swUsed_ok.1 h0
    have g5 := slot_ok.1 (swGet_ok h0)
    have h2 : k.toNat < l.length := by omega
    have hl : l.length ≤ 4294967296 := by have := (swCheck_iff.1 g1).1; omega
    have hne : ¬ l = [] := by rintro rfl; simp at h2
    have hg : swGet l k = l[k.toNat] := by simp [swGet, h2]
    rw [hg] at g5 ⊢
    have hw1 : IntKind.i64.wrap (-l[k.toNat].many) = -l[k.toNat].many := w64 (by omega) (by omega)
    have hw2 : IntKind.i64.wrap (1024-l[k.toNat].many) = 1024-l[k.toNat].many := w64 (by omega) (by omega)
    by_cases h1 : n < - l[k.toNat].many ∨ 1024 - l[k.toNat].many < n
    · simp [Try.ntmps76, Try.results76, cSl, cp0, cn0, cI, cD, cR, rSlot, h0, h2, g2, g3, Slot.row, hw1, hw2, h1, moreE]
    · have hw3 : IntKind.i64.wrap (l[k.toNat].many + n) = l[k.toNat].many + n := w64 (by omega) (by omega)
      by_cases h3 : l[k.toNat].many + n = 0
      · simp [Try.ntmps76, Try.results76, cSl, cp0, cn0, cI, cD, cR, rSlot, h0, h2, g2, g3, Slot.row, hw1, hw2, hw3, h1, h3, hl, hne, cloneI, moreE, noSlot, noPg]
      · simp [Try.ntmps76, Try.results76, cSl, cp0, cn0, cI, cD, cR, rSlot, h0, h2, g2, g3, Slot.row, hw1, hw2, hw3, h1, h3, hl, hne, cloneI, moreE]
  · simp [Try.ntmps76, Try.results76, cSl, cp0, cn0, cI, cD, cR, rSlot, h0, moreE]

/-- swap.Many -/
def swN : List Slot → Int
  | [] => 0
  | s :: r => (if 0 < s.many then 1 else 0) + swN r
def swSum : List Slot → Int
  | [] => 0
  | s :: r => s.many + swSum r
theorem swN_le (l : List Slot) : 0 ≤ swN l ∧ swN l ≤ l.length := by
  induction l with
  | nil => simp [swN]
  | cons s l ih => simp only [swN, List.length_cons]; split <;> omega
theorem swSum_le {l : List Slot} (h : ∀ s ∈ l, s.chk = 0) : 0 ≤ swSum l ∧ swSum l ≤ 1024 * l.length := by
  induction l with
  | nil => simp [swSum]
  | cons s l ih =>
    have := slot_ok.1 (h s (by simp))
    have := ih (fun s hs => h s (by simp [hs]))
    simp only [swSum, List.length_cons]; omega
theorem sw_take (l : List Slot) (k : Nat) (hk : k < l.length) : swN (l.take (k + 1)) = swN (l.take k) + (if 0 < l[k].many then 1 else 0) ∧ swSum (l.take (k + 1)) = swSum (l.take k) + l[k].many := by
  induction l generalizing k with
  | nil => simp at hk
  | cons s l ih =>
    cases k with
    | zero => simp [swN, swSum]
    | succ k =>
      obtain ⟨h1, h2⟩ := ih k (by simpa using hk)
      simp only [List.take_succ_cons, swN, swSum, h1, h2, List.getElem_cons_succ]
      omega

end
section
attribute [local simp] Pg.eta Pg.cold Pg.mapM Pg.mapMc Pg.view Pg.viewc Pg.hotR Pg.ren Pg.renc Pg.low Pg.tau Pg.tauc Pg.bare Pg.flat Pg.flat1 Pg.mapMt Pg.mapMd Pg.coldt Pg.coldd Pg.hotRt Pg.hotRd
attribute [local simp] Slot.eta Slot.cold Slot.mapM Slot.mapMc Slot.view Slot.viewc Slot.hotR Slot.ren Slot.renc Slot.low Slot.tau Slot.tauc Slot.bare Slot.flat Slot.flat1 Slot.mapMt Slot.mapMd Slot.coldt Slot.coldd Slot.hotRt Slot.hotRd
attribute [local simp] okL_tau okL_bare okL_allV okL_one okL_res
def flU {α : Type} (g : α → Row) (sz : Nat) (ok : Bool) (l : List α) (vs : List Value) : AVal × Heap := (.tup (okL ok 0 sz l.length :: vs.map .v), [okO ok sz (l.map g)])
theorem fl_err1 {a : Value} : Lss (.v (.tuple #[.slice none 0 0, a])) (.tup [.esl, .v a]) :=
  (Lss.vals (vs := [.slice none 0 0, a]) rfl (fun j v r hv hr => by
    match j, hv, hr with
    | 0, hv, hr => simp at hv hr; subst hv hr; exact @Lss.nil_esl'
    | 1, hv, hr => simp at hv hr; subst hv hr; exact @Lss.refl _
    | j + 2, hv, hr => simp at hv)).1
theorem fl_err2 {a b : Value} : Lss (.v (.tuple #[.slice none 0 0, a, b])) (.tup [.esl, .v a, .v b]) :=
  (Lss.vals (vs := [.slice none 0 0, a, b]) rfl (fun j v r hv hr => by
    match j, hv, hr with
    | 0, hv, hr => simp at hv hr; subst hv hr; exact @Lss.nil_esl'
    | 1, hv, hr => simp at hv hr; subst hv hr; exact @Lss.refl _
    | 2, hv, hr => simp at hv hr; subst hv hr; exact @Lss.refl _
    | j + 3, hv, hr => simp at hv)).1
def spX : Except Int (List Slot × Nat) → Bool × List Slot × Int × Int
  | .ok (l, k) => (true, l, k, 0)
  | .error e => (false, [], 0, e)
def spU (q : Bool × List Slot × Int × Int) : AVal × Heap := flU Slot.row 17 q.1 q.2.1 [.int .i64 q.2.2.1, .int .i64 q.2.2.2]
def smX : Except Int (List Slot × Bool) → Bool × List Slot × Bool × Int
  | .ok (l, b) => (true, l, b, 0)
  | .error e => (false, [], false, e)
def smU (q : Bool × List Slot × Bool × Int) : AVal × Heap := flU Slot.row 17 q.1 q.2.1 [.bool q.2.2.1, .int .i64 q.2.2.2]
theorem swPut_own : InlOk Try.prog 75 (own0 (argG (cSl rSlot) fun l => argG (cAgg rPg) fun d => argG (cInt .i64) fun many => finG (some (spU (spX (swPut l d many)))))) := by
  refine ownE_3 Try.func75 rfl ?_
  rintro l d many r H' hr
  simp only [Option.some.injEq, Prod.mk.injEq] at hr
  obtain ⟨rfl, rfl⟩ := hr
  refine bodyE_of (((noOrc_ok.withP swCheck_pure).withP swIdx_pure).withI swClone_inl) fxMix (by kernel_rfl) (by simp [Try.ntmps75]) ?_
  intro C cP cI cN cD cF cA cR cL
  have cp0 := orcP swCheck_pure (C := C) (by rw [cP]; rfl)
  have cp1 := orcP swIdx_pure (C := C) (by rw [cP]; rfl)
  have cn0 := orcI swClone_inl (C := C) (by rw [cN]; rfl)
  replace cI := fun g => congrFun cI g
  simp only [Orc.withP, Orc.withI, Orc.withF, Orc.withD, Orc.withA, Orc.withR, Orc.withC, noOrc] at cI
  replace cR : C.rd = fun _ => none := cR
  replace cD : C.dyn = fun _ => [] := cD
  clear cP cN cF cA
  unfold swPut
  by_cases h0 : swCheck l = 0
  · obtain ⟨g1, g2⟩ := swCheck_iff.1 h0
    have hl : l.length ≤ 4294967296 := by omega
    by_cases h1 : many < 1 ∨ 1024 < many
    · simp [Try.ntmps75, Try.results75, cSl, cp0, cp1, cn0, cI, cD, cR, rSlot, rPg, Pg.row, h0, h1, spX, spU, flU, okL, okO]
      first
      | exact ent_err (@fl_err2 _ _) (by simp [lowA, lowC])
      | (refine Ent.weakT (th := [0]) ?_; simp []; done)
      | (refine Ent.weakT (th := [1]) ?_; simp []; done)
      | (refine Ent.weakT (th := [2]) ?_; simp []; done)
      | (refine Ent.weakT (th := [3]) ?_; simp []; done)
      | (refine Ent.weakT (th := [4]) ?_; simp []; done)
      | (refine Ent.weakT (th := [5]) ?_; simp []; done)
      | (refine Ent.weakT (th := [6]) ?_; simp []; done)
      | (refine Ent.weakT (th := [7]) ?_; simp []; done)
      | (refine Ent.weakT (th := [8]) ?_; simp []; done)
      | (refine Ent.weakT (th := [9]) ?_; simp []; done)
      | (refine Ent.weakT (th := [10]) ?_; simp []; done)
      | (refine Ent.weakT (th := [11]) ?_; simp []; done)
    · cases h2 : l.findIdx? Slot.free with
      | none =>
        simp [Try.ntmps75, Try.results75, cSl, cp0, cp1, cn0, cI, cD, cR, rSlot, rPg, Pg.row, h0, h1, hl, idxP, h2, spX, spU, flU, okL, okO]
        first
        | exact ent_err (@fl_err2 _ _) (by simp [lowA, lowC])
        | (refine Ent.weakT (th := [0]) ?_; simp []; done)
        | (refine Ent.weakT (th := [1]) ?_; simp []; done)
        | (refine Ent.weakT (th := [2]) ?_; simp []; done)
        | (refine Ent.weakT (th := [3]) ?_; simp []; done)
        | (refine Ent.weakT (th := [4]) ?_; simp []; done)
        | (refine Ent.weakT (th := [5]) ?_; simp []; done)
        | (refine Ent.weakT (th := [6]) ?_; simp []; done)
        | (refine Ent.weakT (th := [7]) ?_; simp []; done)
        | (refine Ent.weakT (th := [8]) ?_; simp []; done)
        | (refine Ent.weakT (th := [9]) ?_; simp []; done)
        | (refine Ent.weakT (th := [10]) ?_; simp []; done)
        | (refine Ent.weakT (th := [11]) ?_; simp []; done)
      | some k =>
        obtain ⟨hk, _, _⟩ := List.findIdx?_eq_some_iff_getElem.1 h2
        have hne : ¬ l = [] := by rintro rfl; simp at hk
        obtain ⟨Y, hY⟩ : ∃ Y, l.set k ⟨many, d⟩ = Y := ⟨_, rfl⟩
        have hk0 : ¬ (k : Int) < 0 := by omega
        have hYl : Y.length = l.length := by rw [← hY]; simp
        have hms : (l.map Slot.row).set k (Slot.row ⟨many, d⟩) = Y.map Slot.row := by rw [← hY, List.map_set]
        simp only [Slot.row, Pg.row, List.cons_append, List.nil_append] at hms
        simp [Try.ntmps75, Try.results75, cSl, cp0, cp1, cn0, cI, cD, cR, rSlot, rPg, Pg.row, h0, h1, hl, idxP, h2, hk, hne, hk0, spX, spU, flU, okL, okO, cloneI, Slot.row, hms, hY, hYl]
        first
        | exact ent_err (@fl_err2 _ _) (by simp [lowA, lowC])
        | (refine Ent.weakT (th := [0]) ?_; simp [Slot.row, Pg.row, lowA]; done)
        | (refine Ent.weakT (th := [1]) ?_; simp [Slot.row, Pg.row, lowA]; done)
        | (refine Ent.weakT (th := [2]) ?_; simp [Slot.row, Pg.row, lowA]; done)
        | (refine Ent.weakT (th := [3]) ?_; simp [Slot.row, Pg.row, lowA]; done)
        | (refine Ent.weakT (th := [4]) ?_; simp [Slot.row, Pg.row, lowA]; done)
        | (refine Ent.weakT (th := [5]) ?_; simp [Slot.row, Pg.row, lowA]; done)
        | (refine Ent.weakT (th := [6]) ?_; simp [Slot.row, Pg.row, lowA]; done)
        | (refine Ent.weakT (th := [7]) ?_; simp [Slot.row, Pg.row, lowA]; done)
        | (refine Ent.weakT (th := [8]) ?_; simp [Slot.row, Pg.row, lowA]; done)
        | (refine Ent.weakT (th := [9]) ?_; simp [Slot.row, Pg.row, lowA]; done)
        | (refine Ent.weakT (th := [10]) ?_; simp [Slot.row, Pg.row, lowA]; done)
        | (refine Ent.weakT (th := [11]) ?_; simp [Slot.row, Pg.row, lowA]; done)
  · simp [Try.ntmps75, Try.results75, cSl, cp0, cp1, cn0, cI, cD, cR, rSlot, rPg, Pg.row, h0, spX, spU, flU, okL, okO]
    first
    | exact ent_err (@fl_err2 _ _) (by simp [lowA, lowC])
    | (refine Ent.weakT (th := [0]) ?_; simp []; done)
    | (refine Ent.weakT (th := [1]) ?_; simp []; done)
    | (refine Ent.weakT (th := [2]) ?_; simp []; done)
    | (refine Ent.weakT (th := [3]) ?_; simp []; done)
    | (refine Ent.weakT (th := [4]) ?_; simp []; done)
    | (refine Ent.weakT (th := [5]) ?_; simp []; done)
    | (refine Ent.weakT (th := [6]) ?_; simp []; done)
    | (refine Ent.weakT (th := [7]) ?_; simp []; done)
    | (refine Ent.weakT (th := [8]) ?_; simp []; done)
    | (refine Ent.weakT (th := [9]) ?_; simp []; done)
    | (refine Ent.weakT (th := [10]) ?_; simp []; done)
    | (refine Ent.weakT (th := [11]) ?_; simp []; done)
theorem swPut_inl : InlOk Try.prog 75 (frame0 (own0 (argG (cSl rSlot) fun l => argG (cAgg rPg) fun d => argG (cInt .i64) fun many => finG (some (spU (spX (swPut l d many))))))) := frame0_ok swPut_own
theorem swMore_own : InlOk Try.prog 76 (own0 (argG (cSl rSlot) fun l => argG (cInt .i64) fun k => argG (cInt .i64) fun n => finG (some (smU (smX (swMore l k n)))))) := by
  refine ownE_3 Try.func76 rfl ?_
  rintro l k n r H' hr
  simp only [Option.some.injEq, Prod.mk.injEq] at hr
  obtain ⟨rfl, rfl⟩ := hr
  refine bodyE_of ((noOrc_ok.withP swUsed_pure).withI swClone_inl) fxMix (by kernel_rfl) (by simp [Try.ntmps76]) ?_
  intro C cP cI cN cD cF cA cR cL
  have cp0 := orcP swUsed_pure (C := C) (by rw [cP]; rfl)
  have cn0 := orcI swClone_inl (C := C) (by rw [cN]; rfl)
  replace cI := fun g => congrFun cI g
  simp only [Orc.withP, Orc.withI, Orc.withF, Orc.withD, Orc.withA, Orc.withR, Orc.withC, noOrc] at cI
  replace cR : C.rd = fun _ => none := cR
  replace cD : C.dyn = fun _ => [] := cD
  clear cP cN cF cA
  unfold swMore
  by_cases h0 : swUsed l k = 0
  · obtain ⟨g1, g2, g3, g4⟩ := swUsed_ok.1 h0
    have g5 := slot_ok.1 (swGet_ok h0)
    have h2 : k.toNat < l.length := by omega
    have hl : l.length ≤ 4294967296 := by have := (swCheck_iff.1 g1).1; omega
    have hne : ¬ l = [] := by rintro rfl; simp at h2
    have hg : swGet l k = l[k.toNat] := by simp [swGet, h2]
    rw [hg] at g5 ⊢
    have hw1 : IntKind.i64.wrap (-l[k.toNat].many) = -l[k.toNat].many := w64 (by omega) (by omega)
    have hw2 : IntKind.i64.wrap (1024-l[k.toNat].many) = 1024-l[k.toNat].many := w64 (by omega) (by omega)
    by_cases h1 : n < - l[k.toNat].many ∨ 1024 - l[k.toNat].many < n
    · simp [Try.ntmps76, Try.results76, cSl, cp0, cn0, cI, cD, cR, rSlot, h0, h2, g2, g3, Slot.row, hw1, hw2, h1, smX, smU, flU, okL, okO]
      first
      | exact ent_err (@fl_err2 _ _) (by simp [lowA, lowC])
      | (refine Ent.weakT (th := [0]) ?_; simp []; done)
      | (refine Ent.weakT (th := [1]) ?_; simp []; done)
      | (refine Ent.weakT (th := [2]) ?_; simp []; done)
      | (refine Ent.weakT (th := [3]) ?_; simp []; done)
      | (refine Ent.weakT (th := [4]) ?_; simp []; done)
      | (refine Ent.weakT (th := [5]) ?_; simp []; done)
      | (refine Ent.weakT (th := [6]) ?_; simp []; done)
      | (refine Ent.weakT (th := [7]) ?_; simp []; done)
      | (refine Ent.weakT (th := [8]) ?_; simp []; done)
      | (refine Ent.weakT (th := [9]) ?_; simp []; done)
      | (refine Ent.weakT (th := [10]) ?_; simp []; done)
      | (refine Ent.weakT (th := [11]) ?_; simp []; done)
    · have hw3 : IntKind.i64.wrap (l[k.toNat].many + n) = l[k.toNat].many + n := w64 (by omega) (by omega)
      by_cases h3 : l[k.toNat].many + n = 0
      · simp [Try.ntmps76, Try.results76, cSl, cp0, cn0, cI, cD, cR, rSlot, h0, h2, g2, g3, Slot.row, hw1, hw2, hw3, h1, h3, hl, hne, cloneI, smX, smU, flU, okL, okO, noSlot, noPg]
        obtain ⟨Y, hY⟩ : ∃ Y, l.set k.toNat noSlot = Y := ⟨_, rfl⟩
        have hms : (l.map Slot.row).set k.toNat (Slot.row noSlot) = Y.map Slot.row := by rw [← hY, List.map_set]
        simp only [Slot.row, Pg.row, noSlot, noPg, List.cons_append, List.nil_append] at hms
        simp only [hms]
        first
        | exact ent_err (@fl_err2 _ _) (by simp [lowA, lowC])
        | (refine Ent.weakT (th := [0]) ?_; simp [Slot.row, Pg.row, lowA]; done)
        | (refine Ent.weakT (th := [1]) ?_; simp [Slot.row, Pg.row, lowA]; done)
        | (refine Ent.weakT (th := [2]) ?_; simp [Slot.row, Pg.row, lowA]; done)
        | (refine Ent.weakT (th := [3]) ?_; simp [Slot.row, Pg.row, lowA]; done)
        | (refine Ent.weakT (th := [4]) ?_; simp [Slot.row, Pg.row, lowA]; done)
        | (refine Ent.weakT (th := [5]) ?_; simp [Slot.row, Pg.row, lowA]; done)
        | (refine Ent.weakT (th := [6]) ?_; simp [Slot.row, Pg.row, lowA]; done)
        | (refine Ent.weakT (th := [7]) ?_; simp [Slot.row, Pg.row, lowA]; done)
        | (refine Ent.weakT (th := [8]) ?_; simp [Slot.row, Pg.row, lowA]; done)
        | (refine Ent.weakT (th := [9]) ?_; simp [Slot.row, Pg.row, lowA]; done)
        | (refine Ent.weakT (th := [10]) ?_; simp [Slot.row, Pg.row, lowA]; done)
        | (refine Ent.weakT (th := [11]) ?_; simp [Slot.row, Pg.row, lowA]; done)
      · simp [Try.ntmps76, Try.results76, cSl, cp0, cn0, cI, cD, cR, rSlot, h0, h2, g2, g3, Slot.row, hw1, hw2, hw3, h1, h3, hl, hne, cloneI, smX, smU, flU, okL, okO]
        obtain ⟨Y, hY⟩ : ∃ Y, l.set k.toNat ⟨l[k.toNat].many + n, l[k.toNat].data⟩ = Y := ⟨_, rfl⟩
        have hms : (l.map Slot.row).set k.toNat (Slot.row ⟨l[k.toNat].many + n, l[k.toNat].data⟩) = Y.map Slot.row := by rw [← hY, List.map_set]
        simp only [Slot.row, Pg.row, List.cons_append, List.nil_append] at hms
        simp only [hms]
        first
        | exact ent_err (@fl_err2 _ _) (by simp [lowA, lowC])
        | (refine Ent.weakT (th := [0]) ?_; simp [Slot.row, Pg.row, lowA]; done)
        | (refine Ent.weakT (th := [1]) ?_; simp [Slot.row, Pg.row, lowA]; done)
        | (refine Ent.weakT (th := [2]) ?_; simp [Slot.row, Pg.row, lowA]; done)
        | (refine Ent.weakT (th := [3]) ?_; simp [Slot.row, Pg.row, lowA]; done)
        | (refine Ent.weakT (th := [4]) ?_; simp [Slot.row, Pg.row, lowA]; done)
        | (refine Ent.weakT (th := [5]) ?_; simp [Slot.row, Pg.row, lowA]; done)
        | (refine Ent.weakT (th := [6]) ?_; simp [Slot.row, Pg.row, lowA]; done)
        | (refine Ent.weakT (th := [7]) ?_; simp [Slot.row, Pg.row, lowA]; done)
        | (refine Ent.weakT (th := [8]) ?_; simp [Slot.row, Pg.row, lowA]; done)
        | (refine Ent.weakT (th := [9]) ?_; simp [Slot.row, Pg.row, lowA]; done)
        | (refine Ent.weakT (th := [10]) ?_; simp [Slot.row, Pg.row, lowA]; done)
        | (refine Ent.weakT (th := [11]) ?_; simp [Slot.row, Pg.row, lowA]; done)
  · simp [Try.ntmps76, Try.results76, cSl, cp0, cn0, cI, cD, cR, rSlot, h0, smX, smU, flU, okL, okO]
    first
    | exact ent_err (@fl_err2 _ _) (by simp [lowA, lowC])
    | (refine Ent.weakT (th := [0]) ?_; simp []; done)
    | (refine Ent.weakT (th := [1]) ?_; simp []; done)
    | (refine Ent.weakT (th := [2]) ?_; simp []; done)
    | (refine Ent.weakT (th := [3]) ?_; simp []; done)
    | (refine Ent.weakT (th := [4]) ?_; simp []; done)
    | (refine Ent.weakT (th := [5]) ?_; simp []; done)
    | (refine Ent.weakT (th := [6]) ?_; simp []; done)
    | (refine Ent.weakT (th := [7]) ?_; simp []; done)
    | (refine Ent.weakT (th := [8]) ?_; simp []; done)
    | (refine Ent.weakT (th := [9]) ?_; simp []; done)
    | (refine Ent.weakT (th := [10]) ?_; simp []; done)
    | (refine Ent.weakT (th := [11]) ?_; simp []; done)
theorem swMore_inl : InlOk Try.prog 76 (frame0 (own0 (argG (cSl rSlot) fun l => argG (cInt .i64) fun k => argG (cInt .i64) fun n => finG (some (smU (smX (swMore l k n))))))) := frame0_ok swMore_own
end
section
open Go.AI Go.Sort
attribute [local simp] Pr.eta Pr.cold Pr.mapM Pr.mapMc Pr.view Pr.viewc Pr.hotR Pr.ren Pr.renc Pr.low Pr.tau Pr.tauc Pr.bare Pr.flat Pr.flat1 Pr.mapMt Pr.mapMd Pr.coldt Pr.coldd Pr.hotRt Pr.hotRd
attribute [local simp] okL_tau okL_bare okL_allV okL_one okL_res
instance : Inhabited Pr := ⟨⟨0, 0, 0⟩⟩
def pfX : Except Int (List Pr) → Bool × List Pr × Int
  | .ok l => (true, l, 0)
  | .error e => (false, [], e)
def pfU (q : Bool × List Pr × Int) : AVal × Heap := flU Pr.row 3 q.1 q.2.1 [.int .i64 q.2.2]
def poX : Except Int (List Pr × Int) → Bool × List Pr × Int × Int
  | .ok (l, f) => (true, l, f, 0)
  | .error e => (false, [], 0, e)
def poU (q : Bool × List Pr × Int × Int) : AVal × Heap := flU Pr.row 3 q.1 q.2.1 [.int .i64 q.2.2.1, .int .i64 q.2.2.2]
theorem rmPut_own : InlOk Try.prog 69 (own0 (argG (cSl rPr) fun l => argG (cAgg rPr) fun p => finG (some (pfU (pfX (rmPut l p)))))) := by
  refine ownE_2 Try.func69 rfl ?_
  rintro l p r H' hr
  simp only [Option.some.injEq, Prod.mk.injEq] at hr
  obtain ⟨rfl, rfl⟩ := hr
  refine bodyE_of (((((((noOrc_ok.withP rmChk_pure).withP rmFind_pure).withP bs_pure).withIF prClone clone_loc).withIF prIns insert_loc).withD (fun i => if i = 7 then [(1,4),(1,3)] else [])).withA (fun i => if i = 7 then [0,2,3,4,1,5,6,7] else [])) fxMix (by kernel_rfl) (by simp [Try.ntmps69]) ?_
  intro C cP cI cN cD cF cA cR cL
  have cp0 := orcP rmChk_pure (C := C) (by rw [cP]; rfl)
  have cp1 := orcP rmFind_pure (C := C) (by rw [cP]; rfl)
  have cp2 := orcP bs_pure (C := C) (by rw [cP]; rfl)
  have cn0 := orcI prClone (C := C) (by rw [cN]; rfl)
  have cn1 := orcI prIns (C := C) (by rw [cN]; rfl)
  replace cI := fun g => congrFun cI g
  simp only [Orc.withP, Orc.withI, Orc.withF, Orc.withD, Orc.withA, Orc.withR, Orc.withC, noOrc] at cI
  replace cR : C.rd = fun _ => none := cR
  replace cD : C.dyn = fun i => if i = 7 then [(1,4),(1,3)] else [] := cD
  replace cF := fun g => congrFun cF g
  simp only [Orc.withP, Orc.withI, Orc.withF, Orc.withD, Orc.withA, Orc.withR, Orc.withC, noOrc] at cF
  replace cA : C.alt = fun i => if i = 7 then [0,2,3,4,1,5,6,7] else [] := cA
  have rg8 : List.range 8 = [0, 1, 2, 3, 4, 5, 6, 7] := rfl
  clear cP cN
  unfold rmPut
  by_cases h0 : rmChk l p = 0
  · have hg := (rmChk_iff.1 h0).1
    have hck := rmCheck_iff.2 hg
    have hl := hg.len
    have hl2 : l.length ≤ 4294967296 := by omega
    have hl3 : l.length ≤ 1048576 := by omega
    have hle := lowP_le l p
    by_cases h1 : l.any (·.at p.space p.page) = true
    · have h1' := (rmFind_iff l _ _).2 h1
      simp only [h0, if_true, h1]
      simp [Try.ntmps69, Try.results69, cSl, cp0, cp1, cp2, cn0, cn1, cI, cD, cR, cF, cA, rg8, rPr, Pr.row, prDec, h0, hl2, h1', pfX, pfU, flU, okL, okO]
      first
      | exact ent_err (@fl_err1 _) (by simp [lowA, lowC])
      | (refine Ent.weakT (th := [0]) ?_; simp []; done)
      | (refine Ent.weakT (th := [1]) ?_; simp []; done)
      | (refine Ent.weakT (th := [2]) ?_; simp []; done)
      | (refine Ent.weakT (th := [3]) ?_; simp []; done)
      | (refine Ent.weakT (th := [4]) ?_; simp []; done)
      | (refine Ent.weakT (th := [5]) ?_; simp []; done)
      | (refine Ent.weakT (th := [6]) ?_; simp []; done)
      | (refine Ent.weakT (th := [7]) ?_; simp []; done)
      | (refine Ent.weakT (th := [8]) ?_; simp []; done)
      | (refine Ent.weakT (th := [9]) ?_; simp []; done)
      | (refine Ent.weakT (th := [10]) ?_; simp []; done)
      | (refine Ent.weakT (th := [11]) ?_; simp []; done)
    · have h1' : ¬ 0 ≤ rmFind l p.space p.page := fun h => h1 ((rmFind_iff _ _ _).1 h)
      simp only [h0, if_true, h1]
      by_cases hn : l = []
      · subst hn
        simp [Try.ntmps69, Try.results69, cSl, cp0, cp1, cp2, cn0, cn1, cI, cD, cR, cF, cA, rg8, rPr, Pr.row, prDec, h0, hck, h1', pfX, pfU, flU, okL, okO, cloneI, insertI, insP, lowP_nil]
        first
        | exact ent_err (@fl_err1 _) (by simp [lowA, lowC])
        | (refine Ent.weakT (th := [0]) ?_; simp [Pr.row, lowA]; done)
        | (refine Ent.weakT (th := [1]) ?_; simp [Pr.row, lowA]; done)
        | (refine Ent.weakT (th := [2]) ?_; simp [Pr.row, lowA]; done)
        | (refine Ent.weakT (th := [3]) ?_; simp [Pr.row, lowA]; done)
        | (refine Ent.weakT (th := [4]) ?_; simp [Pr.row, lowA]; done)
        | (refine Ent.weakT (th := [5]) ?_; simp [Pr.row, lowA]; done)
        | (refine Ent.weakT (th := [6]) ?_; simp [Pr.row, lowA]; done)
        | (refine Ent.weakT (th := [7]) ?_; simp [Pr.row, lowA]; done)
        | (refine Ent.weakT (th := [8]) ?_; simp [Pr.row, lowA]; done)
        | (refine Ent.weakT (th := [9]) ?_; simp [Pr.row, lowA]; done)
        | (refine Ent.weakT (th := [10]) ?_; simp [Pr.row, lowA]; done)
        | (refine Ent.weakT (th := [11]) ?_; simp [Pr.row, lowA]; done)
      · have hpos : 0 < l.length := List.length_pos_iff.2 hn
        have hh1 : l.length + 1 ≤ lowP l p + (l.length - lowP l p + 1) := by omega
        have hh2 : ∀ x : Row, List.take (l.length + 1) (List.take (lowP l p) (List.map Pr.row l) ++ x :: List.drop (lowP l p) (List.map Pr.row l)) = List.take (lowP l p) (List.map Pr.row l) ++ x :: List.drop (lowP l p) (List.map Pr.row l) := by
          intro x; apply List.take_of_length_le; simp; omega
        have hlen : lowP l p + (l.length - lowP l p + 1) = l.length + 1 := by omega
        have hins : List.take (lowP l p) (List.map Pr.row l) ++ p.row :: List.drop (lowP l p) (List.map Pr.row l) = (List.take (lowP l p) l ++ p :: List.drop (lowP l p) l).map Pr.row := by simp
        simp only [Pr.row] at hins
        simp [Try.ntmps69, Try.results69, cSl, cp0, cp1, cp2, cn0, cn1, cI, cD, cR, cF, cA, rg8, rPr, Pr.row, prDec, h0, hck, hl2, hl3, h1', pfX, pfU, flU, okL, okO, cloneI, insertI, insP, hn, hpos, hle, hh1, hh2, hlen]
        simp only [hins]
        generalize List.take (lowP l p) l ++ p :: List.drop (lowP l p) l = Y
        refine ⟨?_, ?_⟩
        · first
          | exact ent_err (@fl_err1 _) (by simp [lowA, lowC])
          | (refine Ent.weakT (th := [0]) ?_; simp [Pr.row, lowA]; done)
          | (refine Ent.weakT (th := [1]) ?_; simp [Pr.row, lowA]; done)
          | (refine Ent.weakT (th := [2]) ?_; simp [Pr.row, lowA]; done)
          | (refine Ent.weakT (th := [3]) ?_; simp [Pr.row, lowA]; done)
          | (refine Ent.weakT (th := [4]) ?_; simp [Pr.row, lowA]; done)
          | (refine Ent.weakT (th := [5]) ?_; simp [Pr.row, lowA]; done)
          | (refine Ent.weakT (th := [6]) ?_; simp [Pr.row, lowA]; done)
          | (refine Ent.weakT (th := [7]) ?_; simp [Pr.row, lowA]; done)
          | (refine Ent.weakT (th := [8]) ?_; simp [Pr.row, lowA]; done)
          | (refine Ent.weakT (th := [9]) ?_; simp [Pr.row, lowA]; done)
          | (refine Ent.weakT (th := [10]) ?_; simp [Pr.row, lowA]; done)
          | (refine Ent.weakT (th := [11]) ?_; simp [Pr.row, lowA]; done)
        · first
          | exact ent_err (@fl_err1 _) (by simp [lowA, lowC])
          | (refine Ent.weakT (th := [0]) ?_; simp [Pr.row, lowA]; done)
          | (refine Ent.weakT (th := [1]) ?_; simp [Pr.row, lowA]; done)
          | (refine Ent.weakT (th := [2]) ?_; simp [Pr.row, lowA]; done)
          | (refine Ent.weakT (th := [3]) ?_; simp [Pr.row, lowA]; done)
          | (refine Ent.weakT (th := [4]) ?_; simp [Pr.row, lowA]; done)
          | (refine Ent.weakT (th := [5]) ?_; simp [Pr.row, lowA]; done)
          | (refine Ent.weakT (th := [6]) ?_; simp [Pr.row, lowA]; done)
          | (refine Ent.weakT (th := [7]) ?_; simp [Pr.row, lowA]; done)
          | (refine Ent.weakT (th := [8]) ?_; simp [Pr.row, lowA]; done)
          | (refine Ent.weakT (th := [9]) ?_; simp [Pr.row, lowA]; done)
          | (refine Ent.weakT (th := [10]) ?_; simp [Pr.row, lowA]; done)
          | (refine Ent.weakT (th := [11]) ?_; simp [Pr.row, lowA]; done)
  · simp [Try.ntmps69, Try.results69, cSl, cp0, cp1, cp2, cn0, cn1, cI, cD, cR, cF, cA, rg8, rPr, Pr.row, prDec, h0, pfX, pfU, flU, okL, okO]
    first
    | exact ent_err (@fl_err1 _) (by simp [lowA, lowC])
    | (refine Ent.weakT (th := [0]) ?_; simp []; done)
    | (refine Ent.weakT (th := [1]) ?_; simp []; done)
    | (refine Ent.weakT (th := [2]) ?_; simp []; done)
    | (refine Ent.weakT (th := [3]) ?_; simp []; done)
    | (refine Ent.weakT (th := [4]) ?_; simp []; done)
    | (refine Ent.weakT (th := [5]) ?_; simp []; done)
    | (refine Ent.weakT (th := [6]) ?_; simp []; done)
    | (refine Ent.weakT (th := [7]) ?_; simp []; done)
    | (refine Ent.weakT (th := [8]) ?_; simp []; done)
    | (refine Ent.weakT (th := [9]) ?_; simp []; done)
    | (refine Ent.weakT (th := [10]) ?_; simp []; done)
    | (refine Ent.weakT (th := [11]) ?_; simp []; done)
theorem rmPut_inl : InlOk Try.prog 69 (frame0 (own0 (argG (cSl rPr) fun l => argG (cAgg rPr) fun p => finG (some (pfU (pfX (rmPut l p))))))) := frame0_ok rmPut_own
theorem rmOut_own : InlOk Try.prog 70 (own0 (argG (cSl rPr) fun l => argG (cInt .i64) fun s => argG (cInt .i64) fun g => finG (some (poU (poX (rmOut l s g)))))) := by
  refine ownE_3 Try.func70 rfl ?_
  rintro l s g r H' hr
  simp only [Option.some.injEq, Prod.mk.injEq] at hr
  obtain ⟨rfl, rfl⟩ := hr
  refine bodyE_of (((((noOrc_ok.withP rmChk_pure).withP rmFind_pure).withIF prClone clone_loc).withIF prDel delete_loc).withD (fun i => if i = 7 then [(1,10),(5,10)] else [])) fxMix (by kernel_rfl) (by simp [Try.ntmps70]) ?_
  intro C cP cI cN cD cF cA cR cL
  have cp0 := orcP rmChk_pure (C := C) (by rw [cP]; rfl)
  have cp1 := orcP rmFind_pure (C := C) (by rw [cP]; rfl)
  have cn0 := orcI prClone (C := C) (by rw [cN]; rfl)
  have cn1 := orcI prDel (C := C) (by rw [cN]; rfl)
  replace cI := fun g => congrFun cI g
  simp only [Orc.withP, Orc.withI, Orc.withF, Orc.withD, Orc.withA, Orc.withR, Orc.withC, noOrc] at cI
  replace cR : C.rd = fun _ => none := cR
  replace cD : C.dyn = fun i => if i = 7 then [(1,10),(5,10)] else [] := cD
  replace cF := fun g => congrFun cF g
  simp only [Orc.withP, Orc.withI, Orc.withF, Orc.withD, Orc.withA, Orc.withR, Orc.withC, noOrc] at cF
  replace cA : C.alt = fun _ => [] := cA
  clear cP cN
  unfold rmOut
  by_cases h0 : rmChk l ⟨0, s, g⟩ = 0
  · have hg := (rmChk_iff.1 h0).1
    have hl := hg.len
    have hl2 : l.length ≤ 4294967296 := by omega
    have hl3 : l.length ≤ 1048576 := by omega
    by_cases h1 : rmFind l s g < 0
    · simp [Try.ntmps70, Try.results70, cSl, cp0, cp1, cn0, cn1, cI, cD, cR, cF, cA, rPr, Pr.row, prDec, h0, hl2, h1, poX, poU, flU, okL, okO]
      first
      | exact ent_err (@fl_err2 _ _) (by simp [lowA, lowC])
      | (refine Ent.weakT (th := [0]) ?_; simp []; done)
      | (refine Ent.weakT (th := [1]) ?_; simp []; done)
      | (refine Ent.weakT (th := [2]) ?_; simp []; done)
      | (refine Ent.weakT (th := [3]) ?_; simp []; done)
      | (refine Ent.weakT (th := [4]) ?_; simp []; done)
      | (refine Ent.weakT (th := [5]) ?_; simp []; done)
      | (refine Ent.weakT (th := [6]) ?_; simp []; done)
      | (refine Ent.weakT (th := [7]) ?_; simp []; done)
      | (refine Ent.weakT (th := [8]) ?_; simp []; done)
      | (refine Ent.weakT (th := [9]) ?_; simp []; done)
      | (refine Ent.weakT (th := [10]) ?_; simp []; done)
      | (refine Ent.weakT (th := [11]) ?_; simp []; done)
    · obtain ⟨k, hk, hkl, _⟩ := idxP_some h1
      replace hk : rmFind l s g = k := hk
      have hk0 : ¬ (k : Int) < 0 := by omega
      have hn : l ≠ [] := by intro h; subst h; simp at hkl
      have hpos : 0 < l.length := by omega
      have hw : IntKind.i64.wrap ((k : Int) + 1) = (k : Int) + 1 := w64 (by omega) (by omega)
      have he : (List.map Pr.row l).eraseIdx k = List.map Pr.row (l.eraseIdx k) := by simp [List.eraseIdx_eq_take_drop_succ]
      have hel : (l.eraseIdx k).length = l.length - 1 := List.length_eraseIdx_of_lt hkl
      have hel2 : l.length ≤ l.length - 1 + 1 := by omega
      have het : List.take (l.length - 1) (List.map Pr.row (l.eraseIdx k)) = List.map Pr.row (l.eraseIdx k) := List.take_of_length_le (by simp [hel])
      simp [Try.ntmps70, Try.results70, cSl, cp0, cp1, cn0, cn1, cI, cD, cR, cF, cA, he, hel, hel2, het, rPr, Pr.row, prDec, h0, hl2, hl3, hk, hk0, hkl, hn, hpos, hw, poX, poU, flU, okL, okO, cloneI, deleteI]
      first
      | exact ent_err (@fl_err2 _ _) (by simp [lowA, lowC])
      | (refine Ent.weakT (th := [0]) ?_; simp [Pr.row, lowA, he, hel]; done)
      | (refine Ent.weakT (th := [1]) ?_; simp [Pr.row, lowA, he, hel]; done)
      | (refine Ent.weakT (th := [2]) ?_; simp [Pr.row, lowA, he, hel]; done)
      | (refine Ent.weakT (th := [3]) ?_; simp [Pr.row, lowA, he, hel]; done)
      | (refine Ent.weakT (th := [4]) ?_; simp [Pr.row, lowA, he, hel]; done)
      | (refine Ent.weakT (th := [5]) ?_; simp [Pr.row, lowA, he, hel]; done)
      | (refine Ent.weakT (th := [6]) ?_; simp [Pr.row, lowA, he, hel]; done)
      | (refine Ent.weakT (th := [7]) ?_; simp [Pr.row, lowA, he, hel]; done)
      | (refine Ent.weakT (th := [8]) ?_; simp [Pr.row, lowA, he, hel]; done)
      | (refine Ent.weakT (th := [9]) ?_; simp [Pr.row, lowA, he, hel]; done)
      | (refine Ent.weakT (th := [10]) ?_; simp [Pr.row, lowA, he, hel]; done)
      | (refine Ent.weakT (th := [11]) ?_; simp [Pr.row, lowA, he, hel]; done)
  · simp [Try.ntmps70, Try.results70, cSl, cp0, cp1, cn0, cn1, cI, cD, cR, cF, cA, rPr, Pr.row, prDec, h0, poX, poU, flU, okL, okO]
    first
    | exact ent_err (@fl_err2 _ _) (by simp [lowA, lowC])
    | (refine Ent.weakT (th := [0]) ?_; simp []; done)
    | (refine Ent.weakT (th := [1]) ?_; simp []; done)
    | (refine Ent.weakT (th := [2]) ?_; simp []; done)
    | (refine Ent.weakT (th := [3]) ?_; simp []; done)
    | (refine Ent.weakT (th := [4]) ?_; simp []; done)
    | (refine Ent.weakT (th := [5]) ?_; simp []; done)
    | (refine Ent.weakT (th := [6]) ?_; simp []; done)
    | (refine Ent.weakT (th := [7]) ?_; simp []; done)
    | (refine Ent.weakT (th := [8]) ?_; simp []; done)
    | (refine Ent.weakT (th := [9]) ?_; simp []; done)
    | (refine Ent.weakT (th := [10]) ?_; simp []; done)
    | (refine Ent.weakT (th := [11]) ?_; simp []; done)
theorem rmOut_inl : InlOk Try.prog 70 (frame0 (own0 (argG (cSl rPr) fun l => argG (cInt .i64) fun s => argG (cInt .i64) fun g => finG (some (poU (poX (rmOut l s g))))))) := frame0_ok rmOut_own
def mvP (f t : Int) (p : Pr) : Pr := if p.frame = f then ⟨t, p.space, p.page⟩ else p
def cntP (f : Int) (l : List Pr) : Nat := (l.filter (fun x => !(x.frame != f))).length
theorem ordP_swo : SWO (ltOf ordP) where
  irrefl x := by simp only [ltOf, decide_eq_false_iff_not, ordP_lt]; omega
  trans x y z h1 h2 := by simp only [ltOf, decide_eq_true_eq, ordP_lt] at *; omega
  ntrans x y z h1 h2 := by simp only [ltOf, decide_eq_false_iff_not, ordP_lt] at *; omega
def mvL (l : List Pr) (f t : Int) : List Pr := sortL ordP (l.map (mvP f t))
theorem mvL_perm (l : List Pr) (f t : Int) : (mvL l f t).Perm (l.map (mvP f t)) := sortL_perm ordP ordP_swo _
theorem mvL_len (l : List Pr) (f t : Int) : (mvL l f t).length = l.length := by rw [(mvL_perm l f t).length_eq, List.length_map]
def encP (p : Pr) : List Value := [.int .i64 p.frame, .int .i64 p.space, .int .i64 p.page]
theorem encP_row : (fun e => List.map AVal.v (encP e)) = Pr.row := rfl
theorem encP_len (x : Pr) : (encP x).length = 3 := rfl
theorem encP_one (x : Pr) : ∀ v ∈ encP x, v.oneCell' = true := by
  intro v hv
  simp only [encP, List.mem_cons, List.mem_nil_iff, or_false] at hv
  rcases hv with rfl | rfl | rfl <;> rfl
theorem prDec_enc (r : Row) (e : Pr) (h : prDec r = some e) : r = (encP e).map .v := by
  unfold prDec at h
  split at h
  · simp at h; subst h; rfl
  · cases h
theorem ordSort : InlOk Try.prog 142 (sortI 3 139 encP prDec ordP) :=
  sort_inl (by decide) encP_len encP_one prDec_enc order_pure (fun x y => rfl) ordP_swo
    ⟨⟨_, _, Try.func142, rfl⟩,
     fun blk off cap d w hcmp hH hblk hsz => AnyQ.slices_SortFunc_eq Go.Proofs.Ytebpjfdbjhodiaa.layF 3 Try.isAgg137 Try.sizeOf137 encP encP_len encP_one ordP ordP_swo 139 #[] blk off cap d w (enters_of Try.func139 (by kernel_rfl) rfl) hcmp hH hblk hsz,
     fun p cap fv w => AnyF.slices_SortFunc_none Go.Proofs.Ytebpjfdbjhodiaa.layF p cap fv w⟩
def mvX (l : List Pr) (f t : Int) : Bool × List Pr × Int × Int :=
  if rmChk l ⟨f, 1, 0⟩ = 0 then
    if rmChk l ⟨t, 1, 0⟩ = 0 then (if l = [] then (false, [], 0, 0) else (true, mvL l f t, (cntP f l : Int), 0)) else (false, [], 0, rmChk l ⟨t, 1, 0⟩)
  else (false, [], 0, rmChk l ⟨f, 1, 0⟩)
def mvU (q : Bool × List Pr × Int × Int) : AVal × Heap := flU Pr.row 3 q.1 q.2.1 [.int .i64 q.2.2.1, .int .i64 q.2.2.2]
theorem cnt_next {l : List Pr} {f : Int} {k : Nat} (hk : k < l.length) : cntP f (l.take (k + 1)) = cntP f (l.take k) + (if (l[k]).frame = f then 1 else 0) := by
  unfold cntP
  rw [List.take_succ_eq_append_getElem hk, List.filter_append, List.length_append]
  congr 1
  by_cases h : (l[k]).frame = f <;> simp [h]
theorem cnt_le (l : List Pr) (f : Int) : cntP f l ≤ l.length := List.length_filter_le _ _
def mvK (l : List Pr) (f t : Int) (k : Nat) : List Pr := (l.take k).map (mvP f t) ++ l.drop k
theorem mvK_len {l : List Pr} {f t : Int} {k : Nat} (hk : k ≤ l.length) : (mvK l f t k).length = l.length := by
  unfold mvK; simp; omega
theorem mvK_get {l : List Pr} {f t : Int} {k : Nat} (hk : k < l.length) : (mvK l f t k)[k]? = some l[k] := by
  unfold mvK
  rw [List.getElem?_append_right (by simp; omega)]
  simp [Nat.min_eq_left (Nat.le_of_lt hk), hk]
theorem mvK_next {l : List Pr} {f t : Int} {k : Nat} (hk : k < l.length) : mvK l f t (k + 1) = (mvK l f t k).set k (mvP f t l[k]) := by
  unfold mvK
  rw [List.take_succ_eq_append_getElem hk, List.map_append, List.drop_eq_getElem_cons hk, List.append_assoc, List.set_append, if_neg (by simp; omega)]
  have : k - ((l.take k).map (mvP f t)).length = 0 := by simp; omega
  rw [this]; rfl
theorem move_own : InlOk Try.prog 71 (own0 (argG (cSl rPr) fun l => argG (cInt .i64) fun f => argG (cInt .i64) fun t => finG (some (mvU (mvX l f t))))) := by
  refine ownE_3 Try.func71 rfl ?_
  rintro l f t r H' hr
  simp only [Option.some.injEq, Prod.mk.injEq] at hr
  obtain ⟨rfl, rfl⟩ := hr
  refine bodyE_of (((noOrc_ok.withP rmChk_pure).withI prClone).withI ordSort) fxMix (by kernel_rfl) (by simp [Try.ntmps71]) ?_
  intro C cP cI cN cD cF cA cR cL
  have cp0 := orcP rmChk_pure (C := C) (by rw [cP]; rfl)
  have cn0 := orcI prClone (C := C) (by rw [cN]; rfl)
  have cn1 := orcI ordSort (C := C) (by rw [cN]; rfl)
  replace cI := fun g => congrFun cI g
  simp only [Orc.withP, Orc.withI, Orc.withF, Orc.withD, Orc.withA, Orc.withR, Orc.withC, noOrc] at cI
  replace cR : C.rd = fun _ => none := cR
  replace cD : C.dyn = fun _ => [] := cD
  clear cP cN cF cA
  unfold mvX
  by_cases h0 : rmChk l ⟨f, 1, 0⟩ = 0
  · by_cases h1 : rmChk l ⟨t, 1, 0⟩ = 0
    · have g := (rmChk_iff.1 h0).1
      have hl := g.len
      have hl2 : l.length ≤ 4294967296 := by omega
      have hl3 : l.length ≤ 1048576 := by omega
      by_cases hn : l = []
      · subst hn
        simp [Try.ntmps71, Try.results71, cSl, cp0, cn0, cn1, cI, cD, cR, rPr, Pr.row, prDec, h0, h1, cloneI, sortI]
        refine loop_rounds 1 ?_
        simp [Try.ntmps71, Try.results71, cSl, cp0, cn0, cn1, cI, cD, cR, UnrK, sortI, mvU, flU, okL, okO]
        first
        | exact ent_err (@fl_err2 _ _) (by simp [lowA, lowC])
        | (refine Ent.weakT (th := [0]) ?_; simp []; done)
        | (refine Ent.weakT (th := [1]) ?_; simp []; done)
        | (refine Ent.weakT (th := [2]) ?_; simp []; done)
        | (refine Ent.weakT (th := [3]) ?_; simp []; done)
        | (refine Ent.weakT (th := [4]) ?_; simp []; done)
        | (refine Ent.weakT (th := [5]) ?_; simp []; done)
        | (refine Ent.weakT (th := [6]) ?_; simp []; done)
        | (refine Ent.weakT (th := [7]) ?_; simp []; done)
        | (refine Ent.weakT (th := [8]) ?_; simp []; done)
        | (refine Ent.weakT (th := [9]) ?_; simp []; done)
        | (refine Ent.weakT (th := [10]) ?_; simp []; done)
        | (refine Ent.weakT (th := [11]) ?_; simp []; done)
      · have hpos : 0 < l.length := List.length_pos_iff.2 hn
        have hpn : ¬ l.length = 0 := by omega
        have hml := mvL_len l f t
        have hms : sortL ordP (l.map (mvP f t)) = mvL l f t := rfl
        generalize hM : mvL l f t = M at *
        have hMl : M.length ≤ l.length := by omega
        simp [Try.ntmps71, Try.results71, cSl, cp0, cn0, cn1, cI, cD, cR, rPr, Pr.row, prDec, h0, h1, hl2, cloneI, hn]
        refine loop_for l.length (fun k (_ : Unit) => ([(1, .v (.int .i64 f)), (2, .v (.int .i64 t)), (10, .osl 0 3 0 l.length l.length), (11, .v (.int .i64 (cntP f (l.take k)))), (29, .osl 0 3 0 l.length l.length), (30, .v (.int .i64 l.length)), (31, .v (.int .i64 k))], [some (3, (mvK l f t k).map Pr.row)])) (fun k _ => True) () (by omega) trivial (by simp [cntP, mvK]) ?_ ?_
        · intro k _ hk _ hw
          have h1k := mvK_len (f := f) (t := t) (Nat.le_of_lt hk)
          have h2k := mvK_get (f := f) (t := t) hk
          have h3k := mvK_next (f := f) (t := t) hk
          have h4k := cnt_next (f := f) hk
          have h5k := cnt_le (l.take k) f
          have hkt : (l.take k).length = k := by simp; omega
          rw [hkt] at h5k
          have hwc : IntKind.i64.wrap ((cntP f (l.take k) : Int) + 1) = (cntP f (l.take k) : Int) + 1 := w64 (by omega) (by omega)
          generalize mvK l f t k = M1 at *
          generalize cntP f (l.take k) = cn at *
          have hk1 : k < M1.length := by omega
          have hg : M1[k] = l[k] := by rw [List.getElem?_eq_getElem hk1, Option.some.injEq] at h2k; exact h2k
          by_cases hf : (l[k]).frame = f
          · rw [if_pos hf] at h4k
            have hr : (mvK l f t (k + 1)).map Pr.row = (M1.map Pr.row).set k [.v (.int .i64 t), .v (.int .i64 l[k].space), .v (.int .i64 l[k].page)] := by
              rw [h3k, List.map_set]; unfold mvP; rw [if_pos hf]; rfl
            simp [Try.ntmps71, Try.results71, cSl, cp0, cn0, cn1, cI, cD, cR, rPr, hk, hw, hk1, h1k, h2k, hg, Pr.row, hf, hwc, h4k, hr]
            rw [← hr]
            simp [Pr.row, lowA]
          · rw [if_neg hf, Nat.add_zero] at h4k
            have hr : mvK l f t (k + 1) = M1 := by
              rw [h3k]; unfold mvP; rw [if_neg hf, ← hg]; exact List.set_getElem_self hk1
            simp [Try.ntmps71, Try.results71, cSl, cp0, cn0, cn1, cI, cD, cR, rPr, hk, hw, hk1, h1k, h2k, hg, Pr.row, hf, h4k, hr]
            try done
        · intro _ _
          have e1 : mvK l f t l.length = l.map (mvP f t) := by unfold mvK; simp
          have m1 : (((l.map (mvP f t)).map Pr.row).take l.length).mapM prDec = some (l.map (mvP f t)) := by
            rw [List.take_of_length_le (by simp)]
            exact mapM_dec rPr _
          have d1 : ((l.map (mvP f t)).map Pr.row).drop l.length = [] := List.drop_eq_nil_of_le (by simp)
          rw [e1]
          have hr : ∀ X : List Pr, X.map (fun e => List.map AVal.v (encP e)) = X.map Pr.row := fun X => rfl
          have hL1 : l.length ≤ (l.map (mvP f t)).length := by simp
          generalize l.map (mvP f t) = L1 at *
          have hMl2 : l.length ≤ M.length := by omega
          have hMt : List.take l.length (M.map Pr.row) = M.map Pr.row := List.take_of_length_le (by simp; omega)
          simp [Try.ntmps71, Try.results71, cSl, cp0, cn0, cn1, cI, cD, cR, rPr, sortI, hl3, hpn, m1, d1, hms, hr, hL1, hMl2, hMt, hml, mvU, flU, okL, okO]
          first
          | exact ent_err (@fl_err2 _ _) (by simp [lowA, lowC])
          | (refine Ent.weakT (th := [0]) ?_; simp [Pr.row, lowA, hml]; done)
          | (refine Ent.weakT (th := [1]) ?_; simp [Pr.row, lowA, hml]; done)
          | (refine Ent.weakT (th := [2]) ?_; simp [Pr.row, lowA, hml]; done)
          | (refine Ent.weakT (th := [3]) ?_; simp [Pr.row, lowA, hml]; done)
          | (refine Ent.weakT (th := [4]) ?_; simp [Pr.row, lowA, hml]; done)
          | (refine Ent.weakT (th := [5]) ?_; simp [Pr.row, lowA, hml]; done)
          | (refine Ent.weakT (th := [6]) ?_; simp [Pr.row, lowA, hml]; done)
          | (refine Ent.weakT (th := [7]) ?_; simp [Pr.row, lowA, hml]; done)
          | (refine Ent.weakT (th := [8]) ?_; simp [Pr.row, lowA, hml]; done)
          | (refine Ent.weakT (th := [9]) ?_; simp [Pr.row, lowA, hml]; done)
          | (refine Ent.weakT (th := [10]) ?_; simp [Pr.row, lowA, hml]; done)
          | (refine Ent.weakT (th := [11]) ?_; simp [Pr.row, lowA, hml]; done)
    · simp [Try.ntmps71, Try.results71, cSl, cp0, cn0, cn1, cI, cD, cR, rPr, Pr.row, prDec, h0, h1, mvU, flU, okL, okO]
      first
      | exact ent_err (@fl_err2 _ _) (by simp [lowA, lowC])
      | (refine Ent.weakT (th := [0]) ?_; simp []; done)
      | (refine Ent.weakT (th := [1]) ?_; simp []; done)
      | (refine Ent.weakT (th := [2]) ?_; simp []; done)
      | (refine Ent.weakT (th := [3]) ?_; simp []; done)
      | (refine Ent.weakT (th := [4]) ?_; simp []; done)
      | (refine Ent.weakT (th := [5]) ?_; simp []; done)
      | (refine Ent.weakT (th := [6]) ?_; simp []; done)
      | (refine Ent.weakT (th := [7]) ?_; simp []; done)
      | (refine Ent.weakT (th := [8]) ?_; simp []; done)
      | (refine Ent.weakT (th := [9]) ?_; simp []; done)
      | (refine Ent.weakT (th := [10]) ?_; simp []; done)
      | (refine Ent.weakT (th := [11]) ?_; simp []; done)
  · simp [Try.ntmps71, Try.results71, cSl, cp0, cn0, cn1, cI, cD, cR, rPr, Pr.row, prDec, h0, mvU, flU, okL, okO]
    first
    | exact ent_err (@fl_err2 _ _) (by simp [lowA, lowC])
    | (refine Ent.weakT (th := [0]) ?_; simp []; done)
    | (refine Ent.weakT (th := [1]) ?_; simp []; done)
    | (refine Ent.weakT (th := [2]) ?_; simp []; done)
    | (refine Ent.weakT (th := [3]) ?_; simp []; done)
    | (refine Ent.weakT (th := [4]) ?_; simp []; done)
    | (refine Ent.weakT (th := [5]) ?_; simp []; done)
    | (refine Ent.weakT (th := [6]) ?_; simp []; done)
    | (refine Ent.weakT (th := [7]) ?_; simp []; done)
    | (refine Ent.weakT (th := [8]) ?_; simp []; done)
    | (refine Ent.weakT (th := [9]) ?_; simp []; done)
    | (refine Ent.weakT (th := [10]) ?_; simp []; done)
    | (refine Ent.weakT (th := [11]) ?_; simp []; done)
theorem move_inl : InlOk Try.prog 71 (frame0 (own0 (argG (cSl rPr) fun l => argG (cInt .i64) fun f => argG (cInt .i64) fun t => finG (some (mvU (mvX l f t)))))) := frame0_ok move_own
end
end
end Go.Proofs.Ytebpjfdbjhodiaa
