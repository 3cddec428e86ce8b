/- The laws of chapter 27 return true. -/
import Derived.Test.YtjohjiphjmcolaaArC
namespace Go.Proofs.Ytjohjiphjmcolaa
open Go.AI
set_option maxHeartbeats 2000000
set_option linter.unusedSimpArgs false
set_option linter.unusedVariables false
attribute [local simp] wpA wpX RunA RunD runF foot footP bare apart runL step1 gsel_f gsel_t gsel_s res_same res_and1 res_and2 res_and3 res_and4 res_and5 res_and6 res_false res_true res_v res_ptr res_fptr res_osl res_xsl soft aAppendZ aCap ovlI res_fsl res_esl res_agg res_tup res_fn res_junk res_anyb aPick hk imp_left iteV dstOk guardOk astep astepE AI.ev AI.look AI.put envOf aBox cellsOf allOne allOneA oneA Value.oneCell' Value.cells newObj' aFieldAddr aLoad obj readAt thenA blockA condA retA resA tupA view hot hotC hotR depthV cAgg cInt cBool mkAgg allV aAlloc aBuild fillA writeAt aStore isAggA aField idx aIndexAddr aIndex bnd aSlice aExtract aLen aBuiltin aCall isStatic eqAgg eqTy eqC ev_add ev_sub ev_mul ev_quo ev_rem ev_and ev_or ev_xor ev_andNot ev_shl ev_shr ev_eql ev_neq ev_lss ev_leq ev_gtr ev_geq ev_agg w64 wu32 wu8 ev_not ev_neg Cod.plain RCod.plain argM finM cold coldC coldR goInt intDec boolDec aggDec Weaker heapW lowA lowC Again slDec undef aBuildSlice setRows aAppend rowsOf aMakeSlice aClear aCopy softer_self softer_nil valsOf ev_min2 ev_max2 hotR_set hotR_append take_map_set irow_cold irow_mapM irow_mapMc irow_view irow_viewc irow_hotR irow_ren irow_renc irow_low WeakT heapT thOf ren renC AgainT NextF NextT fnDec cFn rNil selfLt natLt0 natLt1 getLastMap frame0 frame1 own0 own1 argG finG tau tauI tauO tauC bareA bareC bareH irow_tau irow_tauc irow_bare irow_flat irow_bareR ownA_nil ownT_nil ownA_c ownT_c ownA_s ownT_s takeMapLen footC plainA noId noIdC cloneF frame0F frame1F insertF fxSz2 fxBy2 fxAg2 fxZe2 fxSl2 fxAr2 fxPl2 fxSz3 fxBy3 fxAg3 fxZe3 fxSl3 fxAr3 fxPl3 fxSz4 fxBy4 fxAg4 fxZe4 fxSl4 fxAr4 fxPl4 fxSz5 fxBy5 fxAg5 fxZe5 fxSl5 fxAr5 fxPl5 fxSz9 fxBy9 fxAg9 fxZe9 fxSl9 fxAr9 fxPl9 fxSz12 fxBy12 fxAg12 fxZe12 fxSl12 fxAr12 fxPl12 fxSz13 fxBy13 fxAg13 fxZe13 fxSl13 fxAr13 fxFi13x0 fxFi13x1 fxPl13 fxSz21 fxBy21 fxAg21 fxZe21 fxSl21 fxAr21 fxPl21 fxSz22 fxBy22 fxAg22 fxZe22 fxSl22 fxAr22 fxPl22 fxSz23 fxBy23 fxAg23 fxZe23 fxSl23 fxAr23 fxFi23x0 fxFi23x1 fxFi23x2 fxPl23 fxSz24 fxBy24 fxAg24 fxZe24 fxSl24 fxAr24 fxFi24x0 fxFi24x1 fxFi24x2 fxPl24 fxSz25 fxBy25 fxAg25 fxZe25 fxSl25 fxAr25 fxPl25 fxSz42 fxBy42 fxAg42 fxZe42 fxSl42 fxAr42 fxPl42 fxSz43 fxBy43 fxAg43 fxZe43 fxSl43 fxAr43 fxFi43x0 fxFi43x1 fxPl43 fxSz44 fxBy44 fxAg44 fxZe44 fxSl44 fxAr44 fxFi44x0 fxFi44x1 fxPl44 fxSz48 fxBy48 fxAg48 fxZe48 fxSl48 fxAr48 fxFi48x0 fxFi48x1 fxPl48 fxSz49 fxBy49 fxAg49 fxZe49 fxSl49 fxAr49 fxFi49x0 fxFi49x1 fxPl49 fxSz53 fxBy53 fxAg53 fxZe53 fxSl53 fxAr53 fxPl53 fxSz59 fxBy59 fxAg59 fxZe59 fxSl59 fxAr59 fxPl59 fxSz68 fxBy68 fxAg68 fxZe68 fxSl68 fxAr68 fxPl68 fxSz85 fxBy85 fxAg85 fxZe85 fxSl85 fxAr85 fxPl85 fxSz91 fxBy91 fxAg91 fxZe91 fxSl91 fxAr91 fxPl91 fxSz92 fxBy92 fxAg92 fxZe92 fxSl92 fxAr92 fxFi92x0 fxPl92 fxSz95 fxBy95 fxAg95 fxZe95 fxSl95 fxAr95 fxPl95 fxSz99 fxBy99 fxAg99 fxZe99 fxSl99 fxAr99 fxPl99 fxSz104 fxBy104 fxAg104 fxZe104 fxSl104 fxAr104 fxPl104 fxEq24 fxEq49 fxEq53 fxCv2x2 fxCv2x3 fxCv2x5 fxCv2x12 fxCv2x21 fxCv2x25 fxCv2x95 fxCv3x2 fxCv3x3 fxCv3x5 fxCv3x12 fxCv3x21 fxCv3x25 fxCv3x95 fxCv5x2 fxCv5x3 fxCv5x5 fxCv5x12 fxCv5x21 fxCv5x25 fxCv5x95 fxCv12x2 fxCv12x3 fxCv12x5 fxCv12x12 fxCv12x21 fxCv12x25 fxCv12x95 fxCv21x2 fxCv21x3 fxCv21x5 fxCv21x12 fxCv21x21 fxCv21x25 fxCv21x95 fxCv25x2 fxCv25x3 fxCv25x5 fxCv25x12 fxCv25x21 fxCv25x25 fxCv25x95 fxCv95x2 fxCv95x3 fxCv95x5 fxCv95x12 fxCv95x21 fxCv95x25 fxCv95x95 fxEb4 fxNb4 fxLt9 fxLn22 fxNe22 fxNn22 fxLn42 fxNe42 fxNn42 fxLn59 fxNe59 fxNn59 fxLn68 fxNe68 fxNn68 fxFn3 fxFm3 fxFb3 fxFi3 fxFj3 fxFn4 fxFm4 fxFb4 fxFi4 fxFj4 fxFn5 fxFm5 fxFb5 fxFi5 fxFj5 fxFn6 fxFm6 fxFb6 fxFi6 fxFj6 fxFn7 fxFm7 fxFb7 fxFi7 fxFj7 fxFn8 fxFm8 fxFb8 fxFi8 fxFj8 fxFn9 fxFm9 fxFb9 fxFi9 fxFj9 fxFn10 fxFm10 fxFb10 fxFi10 fxFj10 fxFn11 fxFm11 fxFb11 fxFi11 fxFj11 fxFn12 fxFm12 fxFb12 fxFi12 fxFj12 fxFn13 fxFm13 fxFb13 fxFi13 fxFj13 fxFn14 fxFm14 fxFb14 fxFi14 fxFj14 fxFn15 fxFm15 fxFb15 fxFi15 fxFj15 fxFn16 fxFm16 fxFb16 fxFi16 fxFj16 fxFn17 fxFm17 fxFb17 fxFi17 fxFj17 fxFn18 fxFm18 fxFb18 fxFi18 fxFj18 fxFn19 fxFm19 fxFb19 fxFi19 fxFj19 fxFn20 fxFm20 fxFb20 fxFi20 fxFj20 fxFn21 fxFm21 fxFb21 fxFi21 fxFj21 fxFn22 fxFm22 fxFb22 fxFi22 fxFj22 fxFn23 fxFm23 fxFb23 fxFi23 fxFj23 fxFn24 fxFm24 fxFb24 fxFi24 fxFj24 fxFn25 fxFm25 fxFb25 fxFi25 fxFj25 fxFn26 fxFm26 fxFb26 fxFi26 fxFj26 fxFn27 fxFm27 fxFb27 fxFi27 fxFj27 fxFn28 fxFm28 fxFb28 fxFi28 fxFj28 fxFn29 fxFm29 fxFb29 fxFi29 fxFj29 fxFn30 fxFm30 fxFb30 fxFi30 fxFj30 fxFn31 fxFm31 fxFb31 fxFi31 fxFj31 fxFn32 fxFm32 fxFb32 fxFi32 fxFj32 fxFn33 fxFm33 fxFb33 fxFi33 fxFj33 fxFn34 fxFm34 fxFb34 fxFi34 fxFj34 fxFn35 fxFm35 fxFb35 fxFi35 fxFj35 fxFn36 fxFm36 fxFb36 fxFi36 fxFj36 fxFn37 fxFm37 fxFb37 fxFi37 fxFj37 fxFn38 fxFm38 fxFb38 fxFi38 fxFj38 fxFn39 fxFm39 fxFb39 fxFi39 fxFj39 fxFn40 fxFm40 fxFb40 fxFi40 fxFj40 fxFn41 fxFm41 fxFb41 fxFi41 fxFj41 fxFn42 fxFm42 fxFb42 fxFi42 fxFj42 fxFn43 fxFm43 fxFb43 fxFi43 fxFj43 fxFn44 fxFm44 fxFb44 fxFi44 fxFj44 fxFn45 fxFm45 fxFb45 fxFi45 fxFj45 fxFn46 fxFm46 fxFb46 fxFi46 fxFj46 fxFn47 fxFm47 fxFb47 fxFi47 fxFj47 fxFn48 fxFm48 fxFb48 fxFi48 fxFj48 fxFn49 fxFm49 fxFb49 fxFi49 fxFj49 fxFn50 fxFm50 fxFn51 fxFm51 fxFb51 fxFi51 fxFj51 fxFn52 fxFm52 fxFb52 fxFi52 fxFj52 fxFn53 fxFm53 fxFn54 fxFm54 fxFb54 fxFi54 fxFj54 fxFn55 fxFm55 fxFb55 fxFi55 fxFj55 fxFn56 fxFm56 fxFb56 fxFi56 fxFj56 fxFn57 fxFm57 fxFb57 fxFi57 fxFj57 fxFn58 fxFm58 fxFb58 fxFi58 fxFj58
attribute [local simp] Ar.eta Ar.cold Ar.mapM Ar.mapMc Ar.view Ar.viewc Ar.hotR Ar.ren Ar.renc Ar.low Ar.tau Ar.tauc Ar.bare Ar.flat Ar.flat1
theorem good1_pure : PureOk Try.prog 37 (argM (cInt .i64) fun e => finM (some (.v (.bool (e != 0))))) := by
  refine pure1 Try.func37 rfl ?_
  rintro e r hr
  simp only [Option.some.injEq] at hr
  subst hr
  refine body_gen noOrc_ok fxMix (by kernel_rfl) (by simp [Try.ntmps37]) ?_
  intro C cP cI cN cD cF
  replace cI : C.inl = fun _ => false := cI
  replace cD : C.dyn = fun _ => [] := cD
  clear cP cN cF
  simp [Try.ntmps37, Try.results37, cSl, cI, cD]
theorem goodIdx_pure : PureOk Try.prog 47 (argM (cSl (rI .i64)) fun l => argM (cFn 37 rNil) fun cp => finM (if l.length ≤ 4294967296 then some (.v (.int .i64 (idxP ((· != 0)) l))) else none)) := by
  refine pure2 Try.func47 rfl ?_
  rintro l cp r hr
  by_cases hc : l.length ≤ 4294967296
  case neg => rw [if_neg hc] at hr; cases hr
  rw [if_pos hc] at hr
  simp only [Option.some.injEq] at hr
  subst hr
  refine body_gen (noOrc_ok.withP good1_pure) fxMix (by kernel_rfl) (by simp [Try.ntmps47]) ?_
  intro C cP cI cN cD cF
  have cp0 := orcP good1_pure (C := C) (by rw [cP]; rfl)
  replace cI : C.inl = fun _ => false := cI
  replace cD : C.dyn = fun _ => [] := cD
  clear cP cN cF
  simp [Try.ntmps47, Try.results47, cSl, cp0, cI, cD, rI, irow]
  refine loop_for l.length (fun k (_ : Unit) => ([(0, .fsl false 1 (l.map (irow .i64))), (1, .fn 37 []), (7, .v (.int .i64 l.length)), (8, .v (.int .i64 k))], [])) (fun k _ => ((l.drop k).findIdx? ((· != 0))).map (· + k) = l.findIdx? ((· != 0))) () hc (by simp) (by simp [rI, irow]) ?_ ?_
  · intro k _ hk hall hw
    by_cases q : ((· != 0)) l[k] = true
    · rw [find_drop hk, if_pos q] at hall
      try simp at q
      simp [Try.ntmps47, Try.results47, cSl, cp0, cI, cD, hk, hw, rI, irow, q, idxP, ← hall]
    · rw [find_drop hk, if_neg q] at hall
      try simp at q
      simp [Try.ntmps47, Try.results47, cSl, cp0, cI, cD, hk, hw, rI, irow, q]
      simpa using hall
  · intro _ hall
    simp at hall
    simp [Try.ntmps47, Try.results47, cSl, cp0, cI, cD, idxP, ← hall]
theorem goodAny_pure : PureOk Try.prog 36 (argM (cSl (rI .i64)) fun l => argM (cFn 37 rNil) fun cp => finM (if l.length ≤ 4294967296 then some (.v (.bool (l.any ((· != 0))))) else none)) := by
  refine pure2 Try.func36 rfl ?_
  rintro l cp r hr
  by_cases hc : l.length ≤ 4294967296
  case neg => rw [if_neg hc] at hr; cases hr
  rw [if_pos hc] at hr
  simp only [Option.some.injEq] at hr
  subst hr
  refine body_gen (noOrc_ok.withP goodIdx_pure) fxMix (by kernel_rfl) (by simp [Try.ntmps36]) ?_
  intro C cP cI cN cD cF
  have cp0 := orcP goodIdx_pure (C := C) (by rw [cP]; rfl)
  replace cI : C.inl = fun _ => false := cI
  replace cD : C.dyn = fun _ => [] := cD
  clear cP cN cF
  simp [Try.ntmps36, Try.results36, cSl, cp0, cI, cD, hc, idxP_iff, rI] <;> (rw [Bool.eq_iff_iff]; simp)
theorem good_pure : PureOk Try.prog 18 (argM (cSl (rI .i64)) fun l => finM (if l.length ≤ 4294967296 then some (.v (.bool (l.all (· == 0)))) else none)) := by
  refine pure1 Try.func18 rfl ?_
  rintro l r hr
  by_cases hc : l.length ≤ 4294967296
  case neg => rw [if_neg hc] at hr; cases hr
  rw [if_pos hc] at hr
  simp only [Option.some.injEq] at hr
  subst hr
  refine body_gen (noOrc_ok.withP goodAny_pure) fxMix (by kernel_rfl) (by simp [Try.ntmps18]) ?_
  intro C cP cI cN cD cF
  have cp0 := orcP goodAny_pure (C := C) (by rw [cP]; rfl)
  replace cI : C.inl = fun _ => false := cI
  replace cD : C.dyn = fun _ => [] := cD
  clear cP cN cF
  simp [Try.ntmps18, Try.results18, cSl, cp0, cI, cD, rI, hc] <;> (rw [Bool.eq_iff_iff]; simp)
theorem arEqual_pure : PureOk Try.prog 19 (argM (cSl rAr) fun l => argM (cSl rAr) fun m => finM (if l.length ≤ 4294967296 then some (.v (.bool (decide (l = m)))) else none)) := by
  refine pure2 Try.func19 rfl ?_
  rintro l m r hr
  by_cases hc : l.length ≤ 4294967296
  case neg => rw [if_neg hc] at hr; cases hr
  rw [if_pos hc] at hr
  simp only [Option.some.injEq] at hr
  subst hr
  refine body_gen noOrc_ok fxMix (by kernel_rfl) (by simp [Try.ntmps19]) ?_
  intro C cP cI cN cD cF
  replace cI : C.inl = fun _ => false := cI
  replace cD : C.dyn = fun _ => [] := cD
  clear cP cN cF
  simp [Try.ntmps19, Try.results19, cSl, cI, cD, rAr, Ar.row]
  split
  · rename_i hn
    have hn : l.length = m.length := by omega
    refine loop_for l.length (fun k (_ : Unit) => ([(0, .fsl false 3 (l.map Ar.row)), (1, .fsl false 3 (m.map Ar.row)), (12, .v (.int .i64 l.length)), (13, .v (.int .i64 k))], [])) (fun k _ => l.drop k = m.drop k ↔ l = m) () hc (by simp) (by simp) ?_ ?_
    · intro k _ hk hall hw
      have hk3 : k < m.length := by omega
      rw [List.drop_eq_getElem_cons hk, List.drop_eq_getElem_cons hk3, List.cons.injEq] at hall
      have he := ar_eq l[k] m[k]
      by_cases q2 : l[k] = m[k]
      · have q3 := he.1 q2
        clear he
        simp only [q2, true_and] at hall
        simp [Try.ntmps19, Try.results19, cSl, cI, cD, hk, hk3, hw, rAr, Ar.row, q3]
        exact hall
      · have hne : ¬ l = m := fun h => q2 (hall.2 h).1
        simp [Try.ntmps19, Try.results19, cSl, cI, cD, hk, hk3, hw, rAr, Ar.row]
        split
        · exact hne
        · rename_i q
          exact absurd (he.2 (by simp_all)) q2
    · intro _ hall
      simp [hn] at hall
      simp [Try.ntmps19, Try.results19, cSl, cI, cD, hall]
  · rename_i hn
    rintro rfl
    exact hn rfl
theorem areas_pure : PureOk Try.prog 14 ( finM (some (.v (.bool true)))) := by
  refine pure0 Try.func14 rfl ?_
  rintro  r hr
  simp only [Option.some.injEq] at hr
  subst hr
  refine body_gen (noOrc_ok.withP arPut_pure) fxMix (by kernel_rfl) (by simp [Try.ntmps14]) ?_
  intro C cP cI cN cD cF
  have cp0 := orcP arPut_pure (C := C) (by rw [cP]; rfl)
  replace cI : C.inl = fun _ => false := cI
  replace cD : C.dyn = fun _ => [] := cD
  clear cP cN cF
  have h1 : arPut [] ⟨1, 2, 3⟩ = .ok [⟨1, 2, 3⟩] := rfl
  simp [Try.ntmps14, Try.results14, cSl, cp0, cI, cD, rAr, Ar.row, arDec, h1, slE]

theorem put_ok {l a : List Ar} {x : Ar} (h : arPut l x = .ok a) : Good none l ∧ x.right = true ∧ Good none a ∧ Apart l x ∧ ∀ p, atR a p = if x.has p = true then some x.rights else atR l p := by
  unfold arPut at h
  split at h
  · rename_i h0
    obtain ⟨hg, hx⟩ := arChk_ok.1 h0
    split at h
    · cases h
    · rename_i h1
      have := manyA_nn l x.page x.end_
      have hap := (manyA_zero hg hx).1 (by omega)
      obtain ⟨k1, k2⟩ := layA_ok hg hx hap
      simp at h
      subst h
      exact ⟨hg, hx, k1, hap, k2⟩
  · cases h
theorem putErr {l : List Ar} {x : Ar} {e : Int} (h : arPut l x = .error e) : ¬ e = 0 := by
  unfold arPut at h
  split at h
  · split at h
    · simp at h; omega
    · cases h
  · simp at h; omega
theorem apart_none {l : List Ar} {x : Ar} (h : Apart l x) {p : Int} (hp : x.has p = true) : atR l p = none := by
  have hp := has_iff.1 hp
  induction l with
  | nil => rfl
  | cons y l ih =>
    have h1 := h y (by simp)
    rw [atR_cons, if_neg, ih (fun z hz => h z (by simp [hz]))]
    rw [has_iff]; omega
theorem atC_same {l m : List Ar} {p : Int} (h : Good none l) (k : Good none m) : arAtC l p = arAtC m p := by
  unfold arAtC arChk
  rw [arCheck_iff.2 h, arCheck_iff.2 k]
theorem atR_A {l : List Ar} {p : Int} (h : arAtC l p = 0) : (arAtA l p).rights = (atR l p).getD 0 ∧ arAtB l p = (atR l p).isSome := by
  unfold arAtA arAtB atR
  rw [if_pos h, if_pos h]
  cases arAt l p <;> simp [noAr]

theorem puts_pure : PureOk Try.prog 3 (argM (cSl rAr) fun l => argM (cAgg rAr) fun x => argM (cInt .i64) fun page => finM (some (.v (.bool true)))) := by
  refine pure3 Try.func3 rfl ?_
  rintro l x page r hr
  simp only [Option.some.injEq] at hr
  subst hr
  refine body_gen ((((noOrc_ok.withP arPut_pure).withP areas_pure).withP arAt_pure).withP arCheck_pure) fxMix (by kernel_rfl) (by simp [Try.ntmps3]) ?_
  intro C cP cI cN cD cF
  have cp0 := orcP arPut_pure (C := C) (by rw [cP]; rfl)
  have cp1 := orcP areas_pure (C := C) (by rw [cP]; rfl)
  have cp2 := orcP arAt_pure (C := C) (by rw [cP]; rfl)
  have cp3 := orcP arCheck_pure (C := C) (by rw [cP]; rfl)
  replace cI : C.inl = fun _ => false := cI
  replace cD : C.dyn = fun _ => [] := cD
  clear cP cN cF
  cases h1 : arPut l x with
  | error e =>
    have he := putErr h1
    simp [Try.ntmps3, Try.results3, cSl, cp0, cp1, cp2, cp3, cI, cD, rAr, Ar.row, arDec, h1, slE, he]
  | ok a =>
    obtain ⟨hg, hx, ha, hap, hat⟩ := put_ok h1
    have hck := arCheck_iff.2 ha
    have hsame := atC_same (p := page) ha hg
    have hw := right_wrap hx
    by_cases h0 : arAtC l page = 0
    · have h0' : arAtC a page = 0 := hsame.trans h0
      obtain ⟨e1, e2⟩ := atR_A h0
      obtain ⟨e3, e4⟩ := atR_A h0'
      rw [hat] at e3 e4
      by_cases q : x.has page = true
      · have q' := has_iff.1 q
        simp only [Ar.end_] at q'
        rw [apart_none hap q] at e2
        rw [if_pos q] at e3 e4
        simp at e2 e3 e4
        simp [Try.ntmps3, Try.results3, cSl, cp0, cp1, cp2, cp3, cI, cD, rAr, Ar.row, arDec, h1, slE, h0, h0', hck, Ar.val, e2, e3, e4, hw, q'.1, q'.2]
      · rw [if_neg q] at e3 e4
        have e5 := e3.trans e1.symm
        have e6 := e4.trans e2.symm
        by_cases q1 : x.page ≤ page
        · have q2 : ¬ page < x.page + x.n := by rw [has_iff] at q; simp only [Ar.end_] at q; omega
          simp [Try.ntmps3, Try.results3, cSl, cp0, cp1, cp2, cp3, cI, cD, rAr, Ar.row, arDec, h1, slE, h0, h0', hck, Ar.val, hw, q1, q2, e5, e6]
        · simp [Try.ntmps3, Try.results3, cSl, cp0, cp1, cp2, cp3, cI, cD, rAr, Ar.row, arDec, h1, slE, h0, h0', hck, Ar.val, hw, q1, e5, e6]
    · have h0' : ¬ arAtC a page = 0 := by rw [hsame]; exact h0
      simp [Try.ntmps3, Try.results3, cSl, cp0, cp1, cp2, cp3, cI, cD, rAr, Ar.row, arDec, h1, slE, h0, hsame, hck, Ar.val]

theorem out_ok {l : List Ar} {x : Ar} (hg : Good none l) (hx : x.right = true) : arOut l x.page x.n = .ok (cutA l x.page x.end_) := by
  have r := Ar.right_iff.1 hx
  unfold arOut
  rw [if_pos]
  · rfl
  · rw [arChk_ok]
    exact ⟨hg, Ar.right_iff.2 (by simp; omega)⟩
theorem back_pure : PureOk Try.prog 6 (argM (cSl rAr) fun l => argM (cAgg rAr) fun x => finM (some (.v (.bool true)))) := by
  refine pure2 Try.func6 rfl ?_
  rintro l x r hr
  simp only [Option.some.injEq] at hr
  subst hr
  refine body_gen ((((noOrc_ok.withP arPut_pure).withP areas_pure).withP arOut_pure).withP arEqual_pure) fxMix (by kernel_rfl) (by simp [Try.ntmps6]) ?_
  intro C cP cI cN cD cF
  have cp0 := orcP arPut_pure (C := C) (by rw [cP]; rfl)
  have cp1 := orcP areas_pure (C := C) (by rw [cP]; rfl)
  have cp2 := orcP arOut_pure (C := C) (by rw [cP]; rfl)
  have cp3 := orcP arEqual_pure (C := C) (by rw [cP]; rfl)
  replace cI : C.inl = fun _ => false := cI
  replace cD : C.dyn = fun _ => [] := cD
  clear cP cN cF
  cases h1 : arPut l x with
  | error e =>
    have he := putErr h1
    simp [Try.ntmps6, Try.results6, cSl, cp0, cp1, cp2, cp3, cI, cD, rAr, Ar.row, arDec, h1, slE, he]
  | ok a =>
    obtain ⟨hg, hx, ha, hap, hat⟩ := put_ok h1
    have r := Ar.right_iff.1 hx
    have hl := good_len0 hg
    have ho := out_ok ha hx
    obtain ⟨c1, c2⟩ := cutA_ok (f := x.page) (t := x.end_) (by simp only [Ar.end_]; omega) ha
    have hcut : cutA a x.page x.end_ = l := by
      refine good_one c1 hg fun p => ?_
      rw [c2, hat]
      by_cases q : x.has p = true
      · rw [if_pos (has_iff.1 q), apart_none hap q]
      · rw [if_neg (fun h => q (has_iff.2 h)), if_neg q]
    rw [hcut] at ho
    have hl2 : l.length ≤ 4294967296 := by omega
    by_cases hne : l = []
    · subst hne
      simp [Try.ntmps6, Try.results6, cSl, cp0, cp1, cp2, cp3, cI, cD, rAr, Ar.row, arDec, h1, slE, outE, ho, hl2]
    · simp [Try.ntmps6, Try.results6, cSl, cp0, cp1, cp2, cp3, cI, cD, rAr, Ar.row, arDec, h1, slE, outE, ho, hl2, hne]

theorem put_eq {l m : List Ar} {x : Ar} (hg : Good none l) (hx : x.right = true) (hap : Apart l x) (hm : Good none m) (he : ∀ p, atR m p = if x.has p = true then some x.rights else atR l p) : arPut l x = .ok m := by
  unfold arPut
  rw [if_pos (arChk_ok.2 ⟨hg, hx⟩), if_neg (by rw [(manyA_zero hg hx).2 hap]; decide)]
  obtain ⟨k1, k2⟩ := layA_ok hg hx hap
  rw [good_one k1 hm (fun p => by rw [k2, he])]
theorem put_meets {l : List Ar} {x : Ar} (hg : Good none l) (hx : x.right = true) (hap : ¬ Apart l x) : arPut l x = .error 5 := by
  unfold arPut
  have := manyA_nn l x.page x.end_
  have h2 := (manyA_zero hg hx)
  rw [if_pos (arChk_ok.2 ⟨hg, hx⟩), if_pos]
  by_cases h : manyA l x.page x.end_ = 0
  · exact absurd (h2.1 h) hap
  · omega
theorem apart_iff {q : Option Ar} {l : List Ar} {x : Ar} (hg : Good q l) (hx : x.right = true) : Apart l x ↔ ∀ p, x.has p = true → atR l p = none := by
  refine ⟨fun h p hp => apart_none h hp, fun h => ?_⟩
  have rx := Ar.right_iff.1 hx
  induction l generalizing q with
  | nil => intro y hy; simp at hy
  | cons y l ih =>
    have ry := Ar.right_iff.1 hg.1
    intro z hz
    rcases List.mem_cons.1 hz with rfl | hz
    · by_cases q : z.end_ ≤ x.page ∨ x.end_ ≤ z.page
      · exact q
      · exfalso
        have := h (max x.page z.page) (has_iff.2 (by simp only [Ar.end_] at *; omega))
        rw [atR_cons, if_pos (has_iff.2 (by simp only [Ar.end_] at *; omega))] at this
        cases this
    · refine ih hg.2.2 (fun p hp => ?_) z hz
      have := h p hp
      rw [atR_cons] at this
      split at this
      · cases this
      · exact this

theorem two_pure : PureOk Try.prog 5 (argM (cSl rAr) fun l => argM (cAgg rAr) fun x => argM (cAgg rAr) fun y => finM (some (.v (.bool true)))) := by
  refine pure3 Try.func5 rfl ?_
  rintro l x y r hr
  simp only [Option.some.injEq] at hr
  subst hr
  refine body_gen ((((noOrc_ok.withP arPut_pure).withP areas_pure).withP good_pure).withP arEqual_pure) fxMix (by kernel_rfl) (by simp [Try.ntmps5]) ?_
  intro C cP cI cN cD cF
  have cp0 := orcP arPut_pure (C := C) (by rw [cP]; rfl)
  have cp1 := orcP areas_pure (C := C) (by rw [cP]; rfl)
  have cp2 := orcP good_pure (C := C) (by rw [cP]; rfl)
  have cp3 := orcP arEqual_pure (C := C) (by rw [cP]; rfl)
  replace cI : C.inl = fun _ => false := cI
  replace cD : C.dyn = fun _ => [] := cD
  clear cP cN cF
  cases h1 : arPut l x with
  | error e =>
    have he := putErr h1
    cases h2 : arPut l y with
    | error f => simp [Try.ntmps5, Try.results5, cSl, cp0, cp1, cp2, cp3, cI, cD, rAr, Ar.row, arDec, h1, h2, slE, he, rI, irow, irowDec]
    | ok b => simp [Try.ntmps5, Try.results5, cSl, cp0, cp1, cp2, cp3, cI, cD, rAr, Ar.row, arDec, h1, h2, slE, he, rI, irow, irowDec]
  | ok a =>
    cases h2 : arPut l y with
    | error f =>
      have he := putErr h2
      simp [Try.ntmps5, Try.results5, cSl, cp0, cp1, cp2, cp3, cI, cD, rAr, Ar.row, arDec, h1, h2, slE, he, rI, irow, irowDec]
    | ok b =>
      obtain ⟨hg, hx, ha, hap, hat⟩ := put_ok h1
      obtain ⟨_, hy, hb, hbp, hbt⟩ := put_ok h2
      have rx := Ar.right_iff.1 hx
      have ry := Ar.right_iff.1 hy
      have hya : Apart a y ↔ x.end_ ≤ y.page ∨ y.end_ ≤ x.page := by
        rw [apart_iff ha hy]
        constructor
        · intro h
          by_cases q : x.end_ ≤ y.page ∨ y.end_ ≤ x.page
          · exact q
          · exfalso
            have := h (max x.page y.page) (has_iff.2 (by simp only [Ar.end_] at *; omega))
            rw [hat, if_pos (has_iff.2 (by simp only [Ar.end_] at *; omega))] at this
            cases this
        · intro h p hp
          have := has_iff.1 hp
          rw [hat, if_neg (by rw [has_iff]; omega)]
          exact apart_none hbp hp
      have hxb : Apart b x ↔ x.end_ ≤ y.page ∨ y.end_ ≤ x.page := by
        rw [apart_iff hb hx]
        constructor
        · intro h
          by_cases q : x.end_ ≤ y.page ∨ y.end_ ≤ x.page
          · exact q
          · exfalso
            have := h (max x.page y.page) (has_iff.2 (by simp only [Ar.end_] at *; omega))
            rw [hbt, if_pos (has_iff.2 (by simp only [Ar.end_] at *; omega))] at this
            cases this
        · intro h p hp
          have := has_iff.1 hp
          rw [hbt, if_neg (by rw [has_iff]; omega)]
          exact apart_none hap hp
      by_cases q : x.end_ ≤ y.page ∨ y.end_ ≤ x.page
      · obtain ⟨k1, k2⟩ := layA_ok ha hy (hya.2 q)
        have h3 := put_eq ha hy (hya.2 q) k1 k2
        have h4 : arPut b x = .ok (layA a y) := by
          refine put_eq hb hx (hxb.2 q) k1 fun p => ?_
          rw [k2, hat, hbt]
          by_cases c1 : y.has p = true
          · have d1 := has_iff.1 c1
            rw [if_pos c1, if_pos c1, if_neg (by rw [has_iff]; omega)]
          · rw [if_neg c1, if_neg c1]
        have hl2 : (layA a y).length ≤ 4294967296 := by have := good_len0 k1; omega
        simp [Try.ntmps5, Try.results5, cSl, cp0, cp1, cp2, cp3, cI, cD, rAr, Ar.row, arDec, h1, h2, slE, rI, irow, irowDec, h3, h4, hl2]
      · have h3 := put_meets ha hy (fun h => q (hya.1 h))
        have h4 := put_meets hb hx (fun h => q (hxb.1 h))
        simp [Try.ntmps5, Try.results5, cSl, cp0, cp1, cp2, cp3, cI, cD, rAr, Ar.row, arDec, h1, h2, slE, rI, irow, irowDec, h3, h4]

open Classical in
theorem turn_eq {l : List Ar} {x : Ar} (hg : Good none l) : arTurn l x = if x.right = true then (if ∀ p, x.has p = true → atR l p ≠ none then .ok (layA (cutA l x.page x.end_) x) else .error 11) else .error 1 := by
  unfold arTurn
  by_cases hx : x.right = true
  · have r := Ar.right_iff.1 hx
    rw [if_pos (arChk_ok.2 ⟨hg, hx⟩), if_pos hx]
    have hle := (manyA_le hg (f := x.page) (t := x.end_) (by simp only [Ar.end_]; omega)).1
    have hfull := manyA_full hg (f := x.page) (t := x.end_) (by simp only [Ar.end_]; omega) (by simp only [Ar.end_]; omega)
    have hx2 : (∀ p, x.has p = true → atR l p ≠ none) ↔ ∀ p, x.page ≤ p → p < x.end_ → atR l p ≠ none :=
      ⟨fun h p h1 h2 => h p (has_iff.2 ⟨h1, h2⟩), fun h p hp => h p (has_iff.1 hp).1 (has_iff.1 hp).2⟩
    by_cases q : ∀ p, x.has p = true → atR l p ≠ none
    · rw [if_pos q, if_neg]
      have := hfull.2 (hx2.1 q)
      simp only [Ar.end_] at *; omega
    · rw [if_neg q, if_pos]
      have : ¬ manyA l x.page x.end_ = x.end_ - x.page := fun h => q (hx2.2 (hfull.1 h))
      simp only [Ar.end_] at *; omega
  · have h1 : arChk l x = 1 := by unfold arChk; rw [arCheck_iff.2 hg]; simp [hx]
    rw [if_neg (by rw [h1]; decide), if_neg hx, h1]
theorem turn_ok {l a : List Ar} {x : Ar} (h : arTurn l x = .ok a) : Good none l ∧ x.right = true ∧ Good none a ∧ (∀ p, x.has p = true → atR l p ≠ none) ∧ ∀ p, atR a p = if x.has p = true then some x.rights else atR l p := by
  classical
  by_cases hg : Good none l
  · rw [turn_eq hg] at h
    split at h
    · rename_i hx
      have r := Ar.right_iff.1 hx
      split at h
      · rename_i hc
        simp at h
        subst h
        obtain ⟨c1, c2⟩ := cutA_ok (f := x.page) (t := x.end_) (by simp only [Ar.end_]; omega) hg
        have hap : Apart (cutA l x.page x.end_) x := by
          rw [apart_iff c1 hx]
          intro p hp
          rw [c2, if_pos (has_iff.1 hp)]
        obtain ⟨k1, k2⟩ := layA_ok c1 hx hap
        refine ⟨hg, hx, k1, hc, fun p => ?_⟩
        rw [k2, c2]
        by_cases q : x.has p = true
        · rw [if_pos q, if_pos q]
        · rw [if_neg q, if_neg q, if_neg (fun h => q (has_iff.2 h))]
      · cases h
    · cases h
  · exfalso
    unfold arTurn at h
    split at h
    · rename_i h0; exact hg (arChk_ok.1 h0).1
    · cases h
theorem turnErr {l : List Ar} {x : Ar} {e : Int} (h : arTurn l x = .error e) : ¬ e = 0 := by
  unfold arTurn at h
  split at h
  · split at h
    · simp at h; omega
    · cases h
  · simp at h; omega
theorem turn_same {l m : List Ar} {x : Ar} (hl : Good none l) (hm : Good none m) (hd : ∀ p, atR l p = none ↔ atR m p = none) (ho : ∀ p, x.has p = false → atR l p = atR m p) : arTurn l x = arTurn m x := by
  classical
  have key : ∀ a b, arTurn l x = .ok a → arTurn m x = .ok b → a = b := by
    intro a b h1 h2
    obtain ⟨_, _, a1, _, a2⟩ := turn_ok h1
    obtain ⟨_, _, b1, _, b2⟩ := turn_ok h2
    refine good_one a1 b1 fun p => ?_
    rw [a2, b2]
    by_cases q : x.has p = true
    · rw [if_pos q, if_pos q]
    · rw [if_neg q, if_neg q, ho p (by simpa using q)]
  have e1 := turn_eq (x := x) hl
  have e2 := turn_eq (x := x) hm
  by_cases hx : x.right = true
  · rw [if_pos hx] at e1 e2
    by_cases q : ∀ p, x.has p = true → atR l p ≠ none
    · have q2 : ∀ p, x.has p = true → atR m p ≠ none := fun p hp h => q p hp ((hd p).2 h)
      rw [if_pos q] at e1
      rw [if_pos q2] at e2
      have := key _ _ e1 e2
      rw [e1, e2, this]
    · have q2 : ¬ ∀ p, x.has p = true → atR m p ≠ none := fun h => q (fun p hp hh => h p hp ((hd p).1 hh))
      rw [if_neg q] at e1
      rw [if_neg q2] at e2
      rw [e1, e2]
  · rw [if_neg hx] at e1 e2; rw [e1, e2]
theorem turns_pure : PureOk Try.prog 7 (argM (cSl rAr) fun l => argM (cAgg rAr) fun x => argM (cInt .i64) fun rights => argM (cInt .i64) fun page => finM (some (.v (.bool true)))) := by
  refine pure4 Try.func7 rfl ?_
  rintro l x rights page r hr
  simp only [Option.some.injEq] at hr
  subst hr
  refine body_gen (((((noOrc_ok.withP arTurn_pure).withP areas_pure).withP arAt_pure).withP arCheck_pure).withP arEqual_pure) fxMix (by kernel_rfl) (by simp [Try.ntmps7]) ?_
  intro C cP cI cN cD cF
  have cp0 := orcP arTurn_pure (C := C) (by rw [cP]; rfl)
  have cp1 := orcP areas_pure (C := C) (by rw [cP]; rfl)
  have cp2 := orcP arAt_pure (C := C) (by rw [cP]; rfl)
  have cp3 := orcP arCheck_pure (C := C) (by rw [cP]; rfl)
  have cp4 := orcP arEqual_pure (C := C) (by rw [cP]; rfl)
  replace cI : C.inl = fun _ => false := cI
  replace cD : C.dyn = fun _ => [] := cD
  clear cP cN cF
  cases h1 : arTurn l x with
  | error e =>
    have he := turnErr h1
    simp [Try.ntmps7, Try.results7, cSl, cp0, cp1, cp2, cp3, cp4, cI, cD, rAr, Ar.row, arDec, h1, slE, he]
  | ok a =>
    obtain ⟨hg, hx, ha, hcov, hat⟩ := turn_ok h1
    have hck := arCheck_iff.2 ha
    have hsame := atC_same (p := page) ha hg
    have hw := right_wrap hx
    have hsame2 : arTurn a ⟨x.page, x.n, rights⟩ = arTurn l ⟨x.page, x.n, rights⟩ := by
      refine turn_same ha hg (fun p => ?_) (fun p hp => ?_)
      · rw [hat]
        by_cases q : x.has p = true
        · rw [if_pos q]
          constructor
          · intro h; cases h
          · intro h; exact absurd h (hcov p q)
        · rw [if_neg q]
      · have q : x.has p = false := hp
        rw [hat, if_neg (by simp [q])]
    have hb : arAtB a page = arAtB l page := by
      by_cases h0 : arAtC l page = 0
      · have h0' : arAtC a page = 0 := hsame.trans h0
        rw [(atR_A h0).2, (atR_A h0').2, hat]
        by_cases q : x.has page = true
        · rw [if_pos q]
          cases hh : atR l page with
          | none => exact absurd hh (hcov page q)
          | some v => rfl
        · rw [if_neg q]
      · have h0' : ¬ arAtC a page = 0 := by rw [hsame]; exact h0
        simp [arAtB, h0, h0']
    have hin : x.has page = true → arAtB l page = true ∧ (arAtA a page).rights = x.rights := by
      intro q
      have q' := has_iff.1 q
      have r := Ar.right_iff.1 hx
      have h0 : arAtC l page = 0 := arChk_ok.2 ⟨hg, Ar.right_iff.2 (by simp only [Ar.end_] at q'; simp; omega)⟩
      have h0' : arAtC a page = 0 := hsame.trans h0
      rw [← hb, (atR_A h0').2, (atR_A h0').1, hat, if_pos q]
      simp
    have tail : ∃ r, arTurn l ⟨x.page, x.n, rights⟩ = r := ⟨_, rfl⟩
    obtain ⟨r, hr⟩ := tail
    rw [hr] at hsame2
    have hlr : ∀ m, r = .ok m → m.length ≤ 4294967296 := by
      intro m hm
      rw [hm] at hr
      have := good_len0 (turn_ok hr).2.2.1
      omega
    by_cases q : x.has page = true
    · obtain ⟨i1, i2⟩ := hin q
      have q' := has_iff.1 q
      simp only [Ar.end_] at q'
      cases r with
      | error e => simp [Try.ntmps7, Try.results7, cSl, cp0, cp1, cp2, cp3, cp4, cI, cD, rAr, Ar.row, arDec, h1, slE, hsame, hck, Ar.val, hw, q'.1, q'.2, hb, i1, i2, hr, hsame2]
      | ok m =>
        have hm := hlr m rfl
        simp [Try.ntmps7, Try.results7, cSl, cp0, cp1, cp2, cp3, cp4, cI, cD, rAr, Ar.row, arDec, h1, slE, hsame, hck, Ar.val, hw, q'.1, q'.2, hb, i1, i2, hr, hsame2, hm]
    · by_cases q1 : x.page ≤ page
      · have q2 : ¬ page < x.page + x.n := by rw [has_iff] at q; simp only [Ar.end_] at q; omega
        cases r with
        | error e => simp [Try.ntmps7, Try.results7, cSl, cp0, cp1, cp2, cp3, cp4, cI, cD, rAr, Ar.row, arDec, h1, slE, hsame, hck, Ar.val, hw, q1, q2, hb, hr, hsame2]
        | ok m =>
          have hm := hlr m rfl
          simp [Try.ntmps7, Try.results7, cSl, cp0, cp1, cp2, cp3, cp4, cI, cD, rAr, Ar.row, arDec, h1, slE, hsame, hck, Ar.val, hw, q1, q2, hb, hr, hsame2, hm]
      · cases r with
        | error e => simp [Try.ntmps7, Try.results7, cSl, cp0, cp1, cp2, cp3, cp4, cI, cD, rAr, Ar.row, arDec, h1, slE, hsame, hck, Ar.val, hw, q1, hb, hr, hsame2]
        | ok m =>
          have hm := hlr m rfl
          simp [Try.ntmps7, Try.results7, cSl, cp0, cp1, cp2, cp3, cp4, cI, cD, rAr, Ar.row, arDec, h1, slE, hsame, hck, Ar.val, hw, q1, hb, hr, hsame2, hm]

theorem gaps_pure : PureOk Try.prog 4 (argM (cSl rAr) fun l => argM (cInt .i64) fun n => argM (cInt .i64) fun page => finM (some (.v (.bool true)))) := by
  refine pure3 Try.func4 rfl ?_
  rintro l n page r hr
  simp only [Option.some.injEq] at hr
  subst hr
  refine body_gen (((noOrc_ok.withP arGap_pure).withP arPut_pure).withP areas_pure) fxMix (by kernel_rfl) (by simp [Try.ntmps4]) ?_
  intro C cP cI cN cD cF
  have cp0 := orcP arGap_pure (C := C) (by rw [cP]; rfl)
  have cp1 := orcP arPut_pure (C := C) (by rw [cP]; rfl)
  have cp2 := orcP areas_pure (C := C) (by rw [cP]; rfl)
  replace cI : C.inl = fun _ => false := cI
  replace cD : C.dyn = fun _ => [] := cD
  clear cP cN cF
  have hput : ∀ b, arPut l ⟨page, n, 0⟩ = .ok b → arGapC l n = 0 ∧ arGap l n ≤ page := by
    intro b hb
    obtain ⟨hg, hx, ha, hap, hat⟩ := put_ok hb
    have r := Ar.right_iff.1 hx
    simp only at r
    have h0 : arChk l ⟨0, n, 0⟩ = 0 := arChk_ok.2 ⟨hg, Ar.right_iff.2 (by simp; omega)⟩
    have := gapGo_ok (n := n) (good_dis0 hg) (by omega) (by omega) (by omega) hx rfl (by simp; omega) hap
    have hc : arGapC l n = 0 := by unfold arGapC; rw [if_pos h0, if_neg (by omega)]
    refine ⟨hc, ?_⟩
    unfold arGap
    rw [if_pos hc]
    exact this.2
  by_cases h0 : arGapC l n = 0
  · have hgap : ∃ b, arPut l ⟨arGap l n, n, 0⟩ = .ok b := by
      have h00 := h0
      unfold arGapC at h0
      split at h0
      · rename_i h1
        obtain ⟨hg, hx⟩ := arChk_ok.1 h1
        have r := Ar.right_iff.1 hx
        simp only at r
        split at h0
        · cases h0
        · rename_i h2
          obtain ⟨f1, f2, f3⟩ := gapGo_fits (n := n) (good_dis0 hg) (by omega) (by omega) (by omega) (by omega)
          have e : arGap l n = gapGo n 0 l := by unfold arGap; rw [if_pos h00]
          rw [e]
          have hr : (⟨gapGo n 0 l, n, 0⟩ : Ar).right = true := Ar.right_iff.2 (by simp; omega)
          obtain ⟨k1, k2⟩ := layA_ok hg hr f3
          exact ⟨_, put_eq hg hr f3 k1 k2⟩
      · rename_i h1; exact absurd h0 h1
    obtain ⟨b, hb⟩ := hgap
    cases h1 : arPut l ⟨page, n, 0⟩ with
    | error e =>
      have he := putErr h1
      simp [Try.ntmps4, Try.results4, cSl, cp0, cp1, cp2, cI, cD, rAr, Ar.row, arDec, h0, h1, hb, slE, he]
    | ok c =>
      have := (hput c h1).2
      simp [Try.ntmps4, Try.results4, cSl, cp0, cp1, cp2, cI, cD, rAr, Ar.row, arDec, h0, h1, hb, slE, this]
  · have hz : arGap l n = 0 := by unfold arGap; rw [if_neg h0]
    cases h1 : arPut l ⟨page, n, 0⟩ with
    | error e =>
      have he := putErr h1
      simp [Try.ntmps4, Try.results4, cSl, cp0, cp1, cp2, cI, cD, rAr, Ar.row, arDec, h0, h1, slE, he, hz]
    | ok c => exact absurd (hput c h1).1 h0
end Go.Proofs.Ytjohjiphjmcolaa
