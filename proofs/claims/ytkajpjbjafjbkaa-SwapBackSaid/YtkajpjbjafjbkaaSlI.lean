/- slices' functions, of integers. -/
import Derived.Test.YtkajpjbjafjbkaaFacts
namespace Go.Proofs.Ytkajpjbjafjbkaa
open Go.AI
set_option maxHeartbeats 2000000
set_option linter.unusedSimpArgs false
set_option linter.unusedVariables false
attribute [local simp] wpA wpX RunA RunD runF foot footP bare apart runL step1 gsel_f gsel_t gsel_s res_same res_and1 res_and2 res_and3 res_and4 res_and5 res_and6 res_false res_true res_v res_ptr res_fptr res_osl res_fsl res_esl res_agg res_tup res_fn res_junk res_anyb aPick hk imp_left iteV dstOk guardOk astep astepE AI.ev AI.look AI.put envOf aBox cellsOf allOne allOneA oneA Value.oneCell' Value.cells newObj' aFieldAddr aLoad obj readAt thenA blockA condA retA resA tupA view hot hotC hotR depthV cAgg cInt cBool mkAgg allV aAlloc aBuild fillA writeAt aStore isAggA aField idx aIndexAddr aIndex bnd aSlice aExtract aLen aBuiltin aCall isStatic eqAgg eqTy eqC ev_add ev_sub ev_mul ev_quo ev_rem ev_and ev_or ev_xor ev_andNot ev_shl ev_shr ev_eql ev_neq ev_lss ev_leq ev_gtr ev_geq ev_agg w64 wu32 wu8 ev_not ev_neg Cod.plain RCod.plain argM finM cold coldC coldR goInt intDec boolDec aggDec Weaker heapW lowA lowC Again slDec undef aBuildSlice setRows aAppend rowsOf aMakeSlice aClear aCopy softer_self softer_nil valsOf ev_min2 ev_max2 hotR_set hotR_append take_map_set irow_cold irow_mapM irow_mapMc irow_view irow_viewc irow_hotR irow_ren irow_renc irow_low WeakT heapT thOf ren renC AgainT NextF NextT fnDec cFn rNil selfLt natLt0 natLt1 getLastMap fxSz2 fxBy2 fxAg2 fxZe2 fxSl2 fxAr2 fxPl2 fxSz3 fxBy3 fxAg3 fxZe3 fxSl3 fxAr3 fxPl3 fxSz4 fxBy4 fxAg4 fxZe4 fxSl4 fxAr4 fxPl4 fxSz5 fxBy5 fxAg5 fxZe5 fxSl5 fxAr5 fxPl5 fxSz9 fxBy9 fxAg9 fxZe9 fxSl9 fxAr9 fxPl9 fxSz12 fxBy12 fxAg12 fxZe12 fxSl12 fxAr12 fxPl12 fxSz13 fxBy13 fxAg13 fxZe13 fxSl13 fxAr13 fxFi13x0 fxFi13x1 fxPl13 fxSz21 fxBy21 fxAg21 fxZe21 fxSl21 fxAr21 fxPl21 fxSz22 fxBy22 fxAg22 fxZe22 fxSl22 fxAr22 fxPl22 fxSz23 fxBy23 fxAg23 fxZe23 fxSl23 fxAr23 fxPl23 fxSz24 fxBy24 fxAg24 fxZe24 fxSl24 fxAr24 fxPl24 fxSz38 fxBy38 fxAg38 fxZe38 fxSl38 fxAr38 fxFi38x0 fxFi38x1 fxPl38 fxSz39 fxBy39 fxAg39 fxZe39 fxSl39 fxAr39 fxFi39x0 fxFi39x1 fxPl39 fxSz41 fxBy41 fxAg41 fxZe41 fxSl41 fxAr41 fxFi41x0 fxFi41x1 fxFi41x2 fxFi41x3 fxFi41x4 fxFi41x5 fxFi41x6 fxPl41 fxSz42 fxBy42 fxAg42 fxZe42 fxSl42 fxAr42 fxFi42x0 fxFi42x1 fxFi42x2 fxFi42x3 fxFi42x4 fxFi42x5 fxFi42x6 fxPl42 fxSz43 fxBy43 fxAg43 fxZe43 fxSl43 fxAr43 fxFi43x0 fxFi43x1 fxFi43x2 fxFi43x3 fxPl43 fxSz44 fxBy44 fxAg44 fxZe44 fxSl44 fxAr44 fxFi44x0 fxFi44x1 fxFi44x2 fxFi44x3 fxPl44 fxSz45 fxBy45 fxAg45 fxZe45 fxSl45 fxAr45 fxPl45 fxSz57 fxBy57 fxAg57 fxZe57 fxSl57 fxAr57 fxPl57 fxSz68 fxBy68 fxAg68 fxZe68 fxSl68 fxAr68 fxPl68 fxSz72 fxBy72 fxAg72 fxZe72 fxSl72 fxAr72 fxPl72 fxSz73 fxBy73 fxAg73 fxZe73 fxSl73 fxAr73 fxFi73x0 fxPl73 fxSz76 fxBy76 fxAg76 fxZe76 fxSl76 fxAr76 fxPl76 fxSz80 fxBy80 fxAg80 fxZe80 fxSl80 fxAr80 fxPl80 fxSz85 fxBy85 fxAg85 fxZe85 fxSl85 fxAr85 fxPl85 fxEq23 fxEq39 fxEq42 fxEq44 fxCv2x2 fxCv2x3 fxCv2x5 fxCv2x12 fxCv2x21 fxCv2x24 fxCv2x76 fxCv3x2 fxCv3x3 fxCv3x5 fxCv3x12 fxCv3x21 fxCv3x24 fxCv3x76 fxCv5x2 fxCv5x3 fxCv5x5 fxCv5x12 fxCv5x21 fxCv5x24 fxCv5x76 fxCv12x2 fxCv12x3 fxCv12x5 fxCv12x12 fxCv12x21 fxCv12x24 fxCv12x76 fxCv21x2 fxCv21x3 fxCv21x5 fxCv21x12 fxCv21x21 fxCv21x24 fxCv21x76 fxCv24x2 fxCv24x3 fxCv24x5 fxCv24x12 fxCv24x21 fxCv24x24 fxCv24x76 fxCv76x2 fxCv76x3 fxCv76x5 fxCv76x12 fxCv76x21 fxCv76x24 fxCv76x76 fxEb4 fxNb4 fxLt9 fxLn22 fxNe22 fxNn22 fxLn45 fxNe45 fxNn45 fxLn57 fxNe57 fxNn57 fxFn3 fxFb3 fxFn4 fxFb4 fxFn5 fxFb5 fxFn6 fxFb6 fxFn7 fxFb7 fxFn8 fxFb8 fxFn9 fxFb9 fxFn10 fxFb10 fxFn11 fxFb11 fxFn12 fxFb12 fxFn13 fxFb13 fxFn14 fxFb14 fxFn15 fxFb15 fxFn16 fxFb16 fxFn17 fxFb17 fxFn18 fxFb18 fxFn19 fxFb19 fxFn20 fxFb20 fxFn21 fxFb21 fxFn22 fxFb22 fxFn23 fxFb23 fxFn24 fxFb24 fxFn25 fxFb25 fxFn26 fxFb26 fxFn27 fxFb27 fxFn28 fxFb28 fxFn29 fxFb29 fxFn30 fxFb30 fxFn31 fxFb31 fxFn32 fxFb32 fxFn33 fxFb33 fxFn34 fxFb34
/-- slices.Index, of integers -/
def idxOf (x : Int) : List Int → Option Nat
  | [] => none
  | y :: r => if x = y then some 0 else (idxOf x r).map (· + 1)
def idxI (x : Int) (l : List Int) : Int := match idxOf x l with | some k => k | none => -1

theorem index_pure : PureOk Try.prog 33 (argM (cSl (rI .i64)) fun l => argM (cInt .i64) fun x => finM (if l.length ≤ 4294967296 then some (.v (.int .i64 (idxI x l))) else none)) := by
  refine pure2 Try.func33 rfl ?_
  rintro l x r hr
  by_cases hc : l.length ≤ 4294967296
  case neg => rw [if_neg hc] at hr; cases hr
  rw [if_pos hc] at hr
  simp only [Option.some.injEq] at hr
  subst hr
  refine body_gen noOrc_ok fxMix (by kernel_rfl) (by simp [Try.ntmps33]) ?_
  intro C cP cI cN cD
  replace cI : C.inl = fun _ => false := cI
  replace cD : C.dyn = fun _ => [] := cD
  clear cP cN
  simp [Try.ntmps33, Try.results33, cSl, cI, cD, rI]
  refine loop_for l.length (fun k (_ : Unit) => ([(0, .fsl false 1 (l.map (irow .i64))), (1, .v (.int .i64 x)), (7, .v (.int .i64 l.length)), (8, .v (.int .i64 k))], [])) (fun k _ => idxOf x l = (idxOf x (l.drop k)).map (· + k)) () hc (by simp) (by simp) ?_ ?_
  · intro k _ hk hall hw
    rw [List.drop_eq_getElem_cons hk, idxOf] at hall
    simp [Try.ntmps33, Try.results33, cSl, cI, cD, hk, irow, hw]
    split
    · rename_i q
      rw [if_pos q] at hall
      simp [idxI, hall]
    · rename_i q
      rw [if_neg q] at hall
      rw [hall, Option.map_map]
      congr 1
      funext z
      simp; omega
  · intro _ hall
    simp [idxOf] at hall
    simp [Try.ntmps33, Try.results33, cSl, cI, cD, idxI, hall]

theorem idxOf_iff (x : Int) (l : List Int) : (idxOf x l).isSome = true ↔ x ∈ l := by
  induction l with
  | nil => simp [idxOf]
  | cons y r ih =>
    simp only [idxOf]
    split
    · rename_i h; simp [h]
    · rename_i h; simp [h, ih]
theorem idxI_iff (x : Int) (l : List Int) : 0 ≤ idxI x l ↔ x ∈ l := by
  rw [← idxOf_iff]
  unfold idxI
  cases idxOf x l <;> simp

theorem contains_pure : PureOk Try.prog 21 (argM (cSl (rI .i64)) fun l => argM (cInt .i64) fun x => finM (if l.length ≤ 4294967296 then some (.v (.bool (decide (x ∈ l)))) else none)) := by
  refine pure2 Try.func21 rfl ?_
  rintro l x r hr
  by_cases hc : l.length ≤ 4294967296
  case neg => rw [if_neg hc] at hr; cases hr
  rw [if_pos hc] at hr
  simp only [Option.some.injEq] at hr
  subst hr
  refine body_gen (noOrc_ok.withP index_pure) fxMix (by kernel_rfl) (by simp [Try.ntmps21]) ?_
  intro C cP cI cN cD
  have cp0 := orcP index_pure (C := C) (by rw [cP]; rfl)
  replace cI : C.inl = fun _ => false := cI
  replace cD : C.dyn = fun _ => [] := cD
  clear cP cN
  simp [Try.ntmps21, Try.results21, cSl, cp0, cI, cD, rI, hc, idxI_iff]
end Go.Proofs.Ytkajpjbjafjbkaa
