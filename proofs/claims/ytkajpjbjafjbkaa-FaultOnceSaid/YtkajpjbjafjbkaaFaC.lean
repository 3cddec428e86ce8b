/- The laws of chapter 29 return true. -/
import Derived.Test.YtkajpjbjafjbkaaFaB
import Derived.Test.YtkajpjbjafjbkaaSlI
namespace Go.Proofs.Ytkajpjbjafjbkaa
open Go.AI
set_option maxHeartbeats 2000000
set_option linter.unusedSimpArgs false
set_option linter.unusedVariables false
attribute [local simp] wpA wpX RunA RunD runF foot footP bare apart runL step1 gsel_f gsel_t gsel_s res_same res_and1 res_and2 res_and3 res_and4 res_and5 res_and6 res_false res_true res_v res_ptr res_fptr res_osl res_fsl res_esl res_agg res_tup res_fn res_junk res_anyb aPick hk imp_left iteV dstOk guardOk astep astepE AI.ev AI.look AI.put envOf aBox cellsOf allOne allOneA oneA Value.oneCell' Value.cells newObj' aFieldAddr aLoad obj readAt thenA blockA condA retA resA tupA view hot hotC hotR depthV cAgg cInt cBool mkAgg allV aAlloc aBuild fillA writeAt aStore isAggA aField idx aIndexAddr aIndex bnd aSlice aExtract aLen aBuiltin aCall isStatic eqAgg eqTy eqC ev_add ev_sub ev_mul ev_quo ev_rem ev_and ev_or ev_xor ev_andNot ev_shl ev_shr ev_eql ev_neq ev_lss ev_leq ev_gtr ev_geq ev_agg w64 wu32 wu8 ev_not ev_neg Cod.plain RCod.plain argM finM cold coldC coldR goInt intDec boolDec aggDec Weaker heapW lowA lowC Again slDec undef aBuildSlice setRows aAppend rowsOf aMakeSlice aClear aCopy softer_self softer_nil valsOf ev_min2 ev_max2 hotR_set hotR_append take_map_set irow_cold irow_mapM irow_mapMc irow_view irow_viewc irow_hotR irow_ren irow_renc irow_low WeakT heapT thOf ren renC AgainT NextF NextT selfLt natLt0 natLt1 getLastMap fxSz2 fxBy2 fxAg2 fxZe2 fxSl2 fxAr2 fxPl2 fxSz3 fxBy3 fxAg3 fxZe3 fxSl3 fxAr3 fxPl3 fxSz4 fxBy4 fxAg4 fxZe4 fxSl4 fxAr4 fxPl4 fxSz5 fxBy5 fxAg5 fxZe5 fxSl5 fxAr5 fxPl5 fxSz9 fxBy9 fxAg9 fxZe9 fxSl9 fxAr9 fxPl9 fxSz12 fxBy12 fxAg12 fxZe12 fxSl12 fxAr12 fxPl12 fxSz13 fxBy13 fxAg13 fxZe13 fxSl13 fxAr13 fxFi13x0 fxFi13x1 fxPl13 fxSz21 fxBy21 fxAg21 fxZe21 fxSl21 fxAr21 fxPl21 fxSz22 fxBy22 fxAg22 fxZe22 fxSl22 fxAr22 fxPl22 fxSz23 fxBy23 fxAg23 fxZe23 fxSl23 fxAr23 fxPl23 fxSz24 fxBy24 fxAg24 fxZe24 fxSl24 fxAr24 fxPl24 fxSz38 fxBy38 fxAg38 fxZe38 fxSl38 fxAr38 fxFi38x0 fxFi38x1 fxPl38 fxSz39 fxBy39 fxAg39 fxZe39 fxSl39 fxAr39 fxFi39x0 fxFi39x1 fxPl39 fxSz41 fxBy41 fxAg41 fxZe41 fxSl41 fxAr41 fxFi41x0 fxFi41x1 fxFi41x2 fxFi41x3 fxFi41x4 fxFi41x5 fxFi41x6 fxPl41 fxSz42 fxBy42 fxAg42 fxZe42 fxSl42 fxAr42 fxFi42x0 fxFi42x1 fxFi42x2 fxFi42x3 fxFi42x4 fxFi42x5 fxFi42x6 fxPl42 fxSz43 fxBy43 fxAg43 fxZe43 fxSl43 fxAr43 fxFi43x0 fxFi43x1 fxFi43x2 fxFi43x3 fxPl43 fxSz44 fxBy44 fxAg44 fxZe44 fxSl44 fxAr44 fxFi44x0 fxFi44x1 fxFi44x2 fxFi44x3 fxPl44 fxSz45 fxBy45 fxAg45 fxZe45 fxSl45 fxAr45 fxPl45 fxSz57 fxBy57 fxAg57 fxZe57 fxSl57 fxAr57 fxPl57 fxSz68 fxBy68 fxAg68 fxZe68 fxSl68 fxAr68 fxPl68 fxSz72 fxBy72 fxAg72 fxZe72 fxSl72 fxAr72 fxPl72 fxSz73 fxBy73 fxAg73 fxZe73 fxSl73 fxAr73 fxFi73x0 fxPl73 fxSz76 fxBy76 fxAg76 fxZe76 fxSl76 fxAr76 fxPl76 fxSz80 fxBy80 fxAg80 fxZe80 fxSl80 fxAr80 fxPl80 fxSz85 fxBy85 fxAg85 fxZe85 fxSl85 fxAr85 fxPl85 fxEq23 fxEq39 fxEq42 fxEq44 fxCv2x2 fxCv2x3 fxCv2x5 fxCv2x12 fxCv2x21 fxCv2x24 fxCv2x76 fxCv3x2 fxCv3x3 fxCv3x5 fxCv3x12 fxCv3x21 fxCv3x24 fxCv3x76 fxCv5x2 fxCv5x3 fxCv5x5 fxCv5x12 fxCv5x21 fxCv5x24 fxCv5x76 fxCv12x2 fxCv12x3 fxCv12x5 fxCv12x12 fxCv12x21 fxCv12x24 fxCv12x76 fxCv21x2 fxCv21x3 fxCv21x5 fxCv21x12 fxCv21x21 fxCv21x24 fxCv21x76 fxCv24x2 fxCv24x3 fxCv24x5 fxCv24x12 fxCv24x21 fxCv24x24 fxCv24x76 fxCv76x2 fxCv76x3 fxCv76x5 fxCv76x12 fxCv76x21 fxCv76x24 fxCv76x76 fxEb4 fxNb4 fxLt9 fxLn22 fxNe22 fxNn22 fxLn45 fxNe45 fxNn45 fxLn57 fxNe57 fxNn57 fxFn3 fxFb3 fxFn4 fxFb4 fxFn5 fxFb5 fxFn6 fxFb6 fxFn7 fxFb7 fxFn8 fxFb8 fxFn9 fxFb9 fxFn10 fxFb10 fxFn11 fxFb11 fxFn12 fxFb12 fxFn13 fxFb13 fxFn14 fxFb14 fxFn15 fxFb15 fxFn16 fxFb16 fxFn17 fxFb17 fxFn18 fxFb18 fxFn19 fxFb19 fxFn20 fxFb20 fxFn21 fxFb21 fxFn22 fxFb22 fxFn23 fxFb23 fxFn24 fxFb24 fxFn25 fxFb25 fxFn26 fxFb26 fxFn27 fxFb27 fxFn28 fxFb28 fxFn29 fxFb29 fxFn30 fxFb30 fxFn31 fxFb31 fxFn32 fxFb32 fxFn33 fxFb33 fxFn34 fxFb34
attribute [local simp] Entry.eta Entry.cold Entry.mapM Entry.mapMc Entry.view Entry.viewc Entry.hotR Entry.ren Entry.renc Entry.low
attribute [local simp] Cs.eta Cs.cold Cs.mapM Cs.mapMc Cs.view Cs.viewc Cs.hotR Cs.ren Cs.renc Cs.low

theorem faults_pure : PureOk Try.prog 18 ( finM (some (.v (.bool true)))) := by
  refine pure0 Try.func18 rfl ?_
  rintro  r hr
  simp only [Option.some.injEq] at hr
  subst hr
  refine body_gen (noOrc_ok.withP csDo_pure) fxMix (by kernel_rfl) (by simp [Try.ntmps18]) ?_
  intro C cP cI cN cD
  have cp0 := orcP csDo_pure (C := C) (by rw [cP]; rfl)
  replace cI : C.inl = fun _ => false := cI
  replace cD : C.dyn = fun _ => [] := cD
  clear cP cN
  have h1 : (Cs.mk 3 noEnt 0 1).chk = 0 := by decide
  have h2 : (Cs.mk 3 noEnt 0 1).do_ = 2 := by decide
  simp only [noEnt] at h1 h2
  simp [Try.ntmps18, Try.results18, cSl, cp0, cI, cD, rCs, Cs.row, csDec, h1, h2]

theorem lenw {n : Nat} (h : n ≤ 4294967296) : IntKind.i64.wrap (n : Int) = n := by rw [w64 (by omega) (by omega)]
theorem here_of {e : Entry} (h : e.none = false) (h2 : e.slot = false) : e.here = true := by
  unfold Entry.none at h
  simp_all

theorem rights_pure : PureOk Try.prog 6 (argM (cAgg rCs) fun c => argM (cInt .i64) fun frame => finM (some (.v (.bool true)))) := by
  refine pure2 Try.func6 rfl ?_
  rintro c frame r hr
  simp only [Option.some.injEq] at hr
  subst hr
  refine body_gen ((noOrc_ok.withP csSteps_pure).withP faults_pure) fxMix (by kernel_rfl) (by simp [Try.ntmps6]) ?_
  intro C cP cI cN cD
  have cp0 := orcP csSteps_pure (C := C) (by rw [cP]; rfl)
  have cp1 := orcP faults_pure (C := C) (by rw [cP]; rfl)
  replace cI : C.inl = fun _ => false := cI
  replace cD : C.dyn = fun _ => [] := cD
  clear cP cN
  by_cases h0 : stepsC c frame = 0
  · skip
    obtain ⟨g1, g2, g3⟩ := steps_ok h0
    obtain ⟨i1, i2, i3, i4, i5, ⟨init, i6⟩, i7, i8, ⟨i9, _⟩, i10⟩ := steps_ind frame g2 g3 5 c g1 (rank_le _)
    have hA : stepsA c frame = .tup [.fsl true 1 ((stepsF 5 c frame).1.map (irow .i64)), .v (stepsF 5 c frame).2.val, .v (.int .i64 0)] := by simp [stepsA, h0]
    generalize stepsF 5 c frame = R at *
    obtain ⟨l, x⟩ := R
    simp only at i1 i2 i3 i4 i5 i6 i7 i8 i9 i10
    subst i6
    have hw := lenw (n := init.length) (by simp at i7; omega)
    have hz : ¬ ((init.length : Int) + 1 = 0) := by omega
    have ha1 := act1 c
    have hcc := cs_ok g1
    have hcx := cs_ok i1
    have hce := ent_ok hcc.2.2.2.2.1
    have hxe := ent_ok hcx.2.2.2.2.1
    rcases i4 with h4 | h4
    · have hx := act0 h4
      have h5 : ¬ c.act = 1 := fun h => by have := i5.2 h; omega
      rw [ha1] at h5
      have h6 : 0 ≤ c.area ∧ iand .i64 c.area c.want = c.want := by
        simp only [not_or, Classical.not_not] at h5
        exact ⟨by omega, h5.2⟩
      simp [Try.ntmps6, Try.results6, cSl, cp0, cp1, cI, cD, rCs, Cs.row, csDec, hA, hw, hz, irow, Cs.val, h4, h6, i2, i3]
      rw [hx.2.2.1, i2]
    · have h5 := ha1.1 (i5.1 h4)
      simp [Try.ntmps6, Try.results6, cSl, cp0, cp1, cI, cD, rCs, Cs.row, csDec, hA, hw, hz, irow, Cs.val, h4]
      exact h5
  · simp [Try.ntmps6, Try.results6, cSl, cp0, cp1, cI, cD, rCs, Cs.row, csDec, stepsA, h0, noCs, noEnt, Cs.val]

theorem ends_pure : PureOk Try.prog 7 (argM (cAgg rCs) fun c => argM (cInt .i64) fun frame => finM (some (.v (.bool true)))) := by
  refine pure2 Try.func7 rfl ?_
  rintro c frame r hr
  simp only [Option.some.injEq] at hr
  subst hr
  refine body_gen ((((noOrc_ok.withP csSteps_pure).withP faults_pure).withP csCheck_pure).withP may_pure) fxMix (by kernel_rfl) (by simp [Try.ntmps7]) ?_
  intro C cP cI cN cD
  have cp0 := orcP csSteps_pure (C := C) (by rw [cP]; rfl)
  have cp1 := orcP faults_pure (C := C) (by rw [cP]; rfl)
  have cp2 := orcP csCheck_pure (C := C) (by rw [cP]; rfl)
  have cp3 := orcP may_pure (C := C) (by rw [cP]; rfl)
  replace cI : C.inl = fun _ => false := cI
  replace cD : C.dyn = fun _ => [] := cD
  clear cP cN
  by_cases h0 : stepsC c frame = 0
  · skip
    obtain ⟨g1, g2, g3⟩ := steps_ok h0
    obtain ⟨i1, i2, i3, i4, i5, ⟨init, i6⟩, i7, i8, ⟨i9, _⟩, i10⟩ := steps_ind frame g2 g3 5 c g1 (rank_le _)
    have hA : stepsA c frame = .tup [.fsl true 1 ((stepsF 5 c frame).1.map (irow .i64)), .v (stepsF 5 c frame).2.val, .v (.int .i64 0)] := by simp [stepsA, h0]
    generalize stepsF 5 c frame = R at *
    obtain ⟨l, x⟩ := R
    simp only at i1 i2 i3 i4 i5 i6 i7 i8 i9 i10
    subst i6
    have hw := lenw (n := init.length) (by simp at i7; omega)
    have hz : ¬ ((init.length : Int) + 1 = 0) := by omega
    have ha1 := act1 c
    have hcc := cs_ok g1
    have hcx := cs_ok i1
    have hce := ent_ok hcc.2.2.2.2.1
    have hxe := ent_ok hcx.2.2.2.2.1
    have hlen : ¬ (5 < (init.length : Int) + 1) := by simp at i7; omega
    have hlen2 : ¬ ((init.length : Int) + 1 < 1) := by omega
    rcases i4 with h4 | h4
    · have hx := act0 h4
      have h5 : ¬ c.act = 1 := fun h => by have := i5.2 h; omega
      rw [ha1] at h5
      have h6 : 0 ≤ c.area ∧ iand .i64 c.area c.want = c.want := by
        simp only [not_or, Classical.not_not] at h5
        exact ⟨by omega, h5.2⟩
      have h7 : x.en.may c.want = true := by
        simp only [Entry.may, hcx.2.2.2.2.1, here_of hx.1 hx.2.1, hx.2.2.1, i2, h6.2, Bool.and_eq_true, decide_eq_true_eq, Bool.or_eq_true]
        refine ⟨⟨⟨⟨⟨by omega, by omega⟩, trivial⟩, trivial⟩, trivial⟩, ?_⟩
        by_cases hq : iand .i64 c.want 2 = 0
        · exact .inl hq
        · right; rw [hx.2.2.2.1 (by rw [i3]; exact hq)]; rfl
      simp [Try.ntmps7, Try.results7, cSl, cp0, cp1, cp2, cp3, cI, cD, rCs, Cs.row, csDec, hA, hw, hz, irow, Cs.val, h4, hlen, hlen2, i1, h7, h6, rEnt, Entry.row, entDec]
    · have h5 := ha1.1 (i5.1 h4)
      have h8 := i8 (i5.1 h4)
      simp at h8
      obtain ⟨h8, rfl⟩ := h8
      have h9 : init = [] := by
        cases init with
        | nil => rfl
        | cons a l => simp at h8
      subst h9
      simp [Try.ntmps7, Try.results7, cSl, cp0, cp1, cp2, cp3, cI, cD, rCs, Cs.row, csDec, hA, hw, hz, irow, Cs.val, h4, i1]
      rcases h5 with h5 | h5
      · exact .inr h5
      · exact .inl h5
  · simp [Try.ntmps7, Try.results7, cSl, cp0, cp1, cp2, cp3, cI, cD, rCs, Cs.row, csDec, stepsA, h0, noCs, noEnt, Cs.val]

theorem alone_pure : PureOk Try.prog 8 (argM (cAgg rCs) fun c => argM (cInt .i64) fun frame => finM (some (.v (.bool true)))) := by
  refine pure2 Try.func8 rfl ?_
  rintro c frame r hr
  simp only [Option.some.injEq] at hr
  subst hr
  refine body_gen (((noOrc_ok.withP csSteps_pure).withP faults_pure).withP contains_pure) fxMix (by kernel_rfl) (by simp [Try.ntmps8]) ?_
  intro C cP cI cN cD
  have cp0 := orcP csSteps_pure (C := C) (by rw [cP]; rfl)
  have cp1 := orcP faults_pure (C := C) (by rw [cP]; rfl)
  have cp2 := orcP contains_pure (C := C) (by rw [cP]; rfl)
  replace cI : C.inl = fun _ => false := cI
  replace cD : C.dyn = fun _ => [] := cD
  clear cP cN
  by_cases h0 : stepsC c frame = 0
  · skip
    obtain ⟨g1, g2, g3⟩ := steps_ok h0
    obtain ⟨i1, i2, i3, i4, i5, ⟨init, i6⟩, i7, i8, ⟨i9, _⟩, i10⟩ := steps_ind frame g2 g3 5 c g1 (rank_le _)
    have hA : stepsA c frame = .tup [.fsl true 1 ((stepsF 5 c frame).1.map (irow .i64)), .v (stepsF 5 c frame).2.val, .v (.int .i64 0)] := by simp [stepsA, h0]
    generalize stepsF 5 c frame = R at *
    obtain ⟨l, x⟩ := R
    simp only at i1 i2 i3 i4 i5 i6 i7 i8 i9 i10 hA
    have hl : l.length = init.length + 1 := by rw [i6]; simp
    have hg : ∀ h : init.length < l.length, l[init.length] = x.act := by rw [i6]; simp
    have hw := lenw (n := init.length) (by omega)
    have hlen : init.length ≤ 4294967295 := by omega
    rcases i4 with h4 | h4
    · have hx := act0 h4
      by_cases hq : iand .i64 c.want 2 = 0
      · simp [Try.ntmps8, Try.results8, cSl, cp0, cp1, cp2, cI, cD, rCs, Cs.row, csDec, hA, hl, hg, hw, Cs.val, h4, hq, irow]
      · obtain ⟨j1, j2⟩ := i10 hq (fun h => by have := i5.2 h; omega)
        have hcp := hx.2.2.2.1 (by rw [i3]; exact hq)
        simp [Try.ntmps8, Try.results8, cSl, cp0, cp1, cp2, cI, cD, rCs, Cs.row, csDec, hA, hl, hg, hw, Cs.val, h4, hq, hcp, rI, hlen, irow]
        exact ⟨j2, by rw [Bool.eq_iff_iff]; simp [j1]⟩
    · simp [Try.ntmps8, Try.results8, cSl, cp0, cp1, cp2, cI, cD, rCs, Cs.row, csDec, hA, hl, hg, hw, Cs.val, h4, irow]
  · simp [Try.ntmps8, Try.results8, cSl, cp0, cp1, cp2, cI, cD, rCs, Cs.row, csDec, stepsA, h0, noCs, noEnt, Cs.val]

theorem once_pure : PureOk Try.prog 9 (argM (cAgg rCs) fun c => argM (cInt .i64) fun frame => finM (some (.v (.bool true)))) := by
  refine pure2 Try.func9 rfl ?_
  rintro c frame r hr
  simp only [Option.some.injEq] at hr
  subst hr
  refine body_gen (((noOrc_ok.withP csSteps_pure).withP faults_pure).withP contains_pure) fxMix (by kernel_rfl) (by simp [Try.ntmps9]) ?_
  intro C cP cI cN cD
  have cp0 := orcP csSteps_pure (C := C) (by rw [cP]; rfl)
  have cp1 := orcP faults_pure (C := C) (by rw [cP]; rfl)
  have cp2 := orcP contains_pure (C := C) (by rw [cP]; rfl)
  replace cI : C.inl = fun _ => false := cI
  replace cD : C.dyn = fun _ => [] := cD
  clear cP cN
  by_cases h0 : stepsC c frame = 0
  · skip
    obtain ⟨g1, g2, g3⟩ := steps_ok h0
    obtain ⟨i1, i2, i3, i4, i5, ⟨init, i6⟩, i7, i8, ⟨i9, _⟩, i10⟩ := steps_ind frame g2 g3 5 c g1 (rank_le _)
    have hA : stepsA c frame = .tup [.fsl true 1 ((stepsF 5 c frame).1.map (irow .i64)), .v (stepsF 5 c frame).2.val, .v (.int .i64 0)] := by simp [stepsA, h0]
    generalize stepsF 5 c frame = R at *
    obtain ⟨l, x⟩ := R
    simp only at i1 i2 i3 i4 i5 i6 i7 i8 i9 i10 hA
    have hC2 : stepsC x frame = 0 := by simp [stepsC, i1]; omega
    have hA2 : stepsA x frame = .tup [.fsl true 1 [irow .i64 x.act], .v x.val, .v (.int .i64 0)] := by simp [stepsA, hC2, act_done i4]
    simp [Try.ntmps9, Try.results9, cSl, cp0, cp1, cp2, cI, cD, rCs, Cs.row, csDec, hA, Cs.val]
    refine loop_for l.length (fun k (_ : Unit) => ([(1, .v (.int .i64 frame)), (5, .fsl true 1 (l.map (irow .i64))), (6, .ptr 1 10 0 0), (27, .fsl true 1 (l.map (irow .i64))), (28, .v (.int .i64 l.length)), (29, .v (.int .i64 k))], [some (10, [c.row]), some (10, [x.row])])) (fun _ _ => True) () (by omega) trivial ?_ ?_ ?_
    · simp [Cs.row]
    · intro k _ hk _ hw
      have hn : ¬ l[k] ∈ l.take k := by
        intro hm
        obtain ⟨j, hj, hjk⟩ := List.getElem_of_mem hm
        simp at hj hjk
        have := List.pairwise_iff_getElem.1 i9 j k (by omega) hk (by omega)
        rw [hjk] at this
        omega
      have hlk : (k : Int) ≤ l.length := by omega
      have hlk2 : min k l.length ≤ 4294967296 := by omega
      simp [Try.ntmps9, Try.results9, cSl, cp0, cp1, cp2, cI, cD, hk, hw, hlk, hlk2, irow, rI, ← List.map_take, hn]
    · intro _ _
      simp [Try.ntmps9, Try.results9, cSl, cp0, cp1, cp2, cI, cD, rCs, Cs.row, csDec, hA2, Cs.val]
  · simp [Try.ntmps9, Try.results9, cSl, cp0, cp1, cp2, cI, cD, rCs, Cs.row, csDec, stepsA, h0, noCs, noEnt, Cs.val]
end Go.Proofs.Ytkajpjbjafjbkaa
