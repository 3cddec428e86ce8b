/- ringkeep2: TlbShoots, TlbKeeps, TlbLate. ringkeep2: TlbKeeps, TlbLate. ringkeep2: TlbLate, lists of any length. -/
import Derived.Test.YtdhpgdfjogklaaaTmD
namespace Go.Proofs.Ytdhpgdfjogklaaa
open Go.AI
set_option maxHeartbeats 2000000
set_option maxRecDepth 100000
set_option linter.unusedSimpArgs false
set_option linter.unusedVariables false
attribute [local simp] wpA wpX RunA RunD runF foot footP footB idsA bare apart runL step1 gsel_f gsel_t gsel_s res_same res_and1 res_and2 res_and3 res_and4 res_and5 res_and6 res_false res_true res_v res_ptr res_fptr res_osl res_xsl soft aAppendZ aCap ovlI ovlJ res_fsl res_esl res_agg res_tup res_fn res_junk res_anyb aPick hk imp_left iteV dstOk guardOk astep astepE AI.ev AI.look AI.put envOf aBox cellsOf allOne allOneA oneA Value.oneCell' Value.cells newObj' aFieldAddr aLoad obj readAt thenA blockA condA retA resA tupA view hot hotC hotR depthV cAgg cInt cBool mkAgg allV aAlloc aBuild fillA writeAt aStore isAggA aField idx aIndexAddr aIndex bnd aSlice aExtract aLen aBuiltin aCall isStatic eqAgg eqTy eqC ev_add ev_sub ev_mul ev_quo ev_rem ev_and ev_or ev_xor ev_andNot ev_shl ev_shr ev_eql ev_neq ev_lss ev_leq ev_gtr ev_geq ev_agg w64 wu32 wu8 ev_not ev_neg Cod.plain RCod.plain argM finM cold coldC coldR goInt intDec boolDec aggDec Weaker heapW lowA lowC Again slDec undef aBuildSlice setRows aAppend rowsOf aMakeSlice aClear aCopy softer_self softer_nil valsOf ev_min2 ev_max2 hotR_set hotR_append take_map_set irow_cold irow_mapM irow_mapMc irow_view irow_viewc irow_hotR irow_ren irow_renc irow_low WeakT heapT thOf ren renC AgainT NextF NextT fnDec cFn rNil selfLt natLt0 natLt1 getLastMap frame0 frame1 own0 own1 argG finG tau tauI tauO tauC bareA bareC bareH irow_tau irow_tauc irow_bare irow_flat irow_bareR ownA_nil ownT_nil ownA_c ownT_c ownA_s ownT_s takeMapLen footC plainA noId noIdC cloneF frame0F frame1F insertF replaceI replaceF cellDec rCell fpDec cFp rTwo deleteF allV_oA oneA_oA res_oA RunR RunE runFT footAt hotR_cat tmodN fxSz2 fxBy2 fxAg2 fxZe2 fxSl2 fxAr2 fxPl2 fxSz3 fxBy3 fxAg3 fxZe3 fxSl3 fxAr3 fxPl3 fxSz4 fxBy4 fxAg4 fxZe4 fxSl4 fxAr4 fxPl4 fxSz5 fxBy5 fxAg5 fxZe5 fxSl5 fxAr5 fxPl5 fxSz9 fxBy9 fxAg9 fxZe9 fxSl9 fxAr9 fxPl9 fxSz12 fxBy12 fxAg12 fxZe12 fxSl12 fxAr12 fxPl12 fxSz13 fxBy13 fxAg13 fxZe13 fxSl13 fxAr13 fxFi13x0 fxFi13x1 fxPl13 fxSz21 fxBy21 fxAg21 fxZe21 fxSl21 fxAr21 fxPl21 fxSz22 fxBy22 fxAg22 fxZe22 fxSl22 fxAr22 fxPl22 fxSz23 fxBy23 fxAg23 fxZe23 fxSl23 fxAr23 fxFi23x0 fxFi23x1 fxPl23 fxSz24 fxBy24 fxAg24 fxZe24 fxSl24 fxAr24 fxFi24x0 fxFi24x1 fxPl24 fxSz25 fxBy25 fxAg25 fxZe25 fxSl25 fxAr25 fxPl25 fxSz26 fxBy26 fxAg26 fxZe26 fxSl26 fxAr26 fxPl26 fxSz27 fxBy27 fxAg27 fxZe27 fxSl27 fxAr27 fxFi27x0 fxFi27x1 fxFi27x2 fxFi27x3 fxFi27x4 fxFi27x5 fxFi27x6 fxPl27 fxSz28 fxBy28 fxAg28 fxZe28 fxSl28 fxAr28 fxFi28x0 fxFi28x1 fxFi28x2 fxFi28x3 fxFi28x4 fxFi28x5 fxFi28x6 fxPl28 fxSz29 fxBy29 fxAg29 fxZe29 fxSl29 fxAr29 fxPl29 fxSz44 fxBy44 fxAg44 fxZe44 fxSl44 fxAr44 fxPl44 fxSz45 fxBy45 fxAg45 fxZe45 fxSl45 fxAr45 fxPl45 fxSz52 fxBy52 fxAg52 fxZe52 fxSl52 fxAr52 fxPl52 fxSz54 fxBy54 fxAg54 fxZe54 fxSl54 fxAr54 fxFi54x0 fxFi54x1 fxPl54 fxSz55 fxBy55 fxAg55 fxZe55 fxSl55 fxAr55 fxFi55x0 fxFi55x1 fxPl55 fxSz56 fxBy56 fxAg56 fxZe56 fxSl56 fxAr56 fxPl56 fxSz60 fxBy60 fxAg60 fxZe60 fxSl60 fxAr60 fxPl60 fxSz61 fxBy61 fxAg61 fxZe61 fxSl61 fxAr61 fxPl61 fxSz62 fxBy62 fxAg62 fxZe62 fxSl62 fxAr62 fxFi62x0 fxFi62x1 fxPl62 fxSz63 fxBy63 fxAg63 fxZe63 fxSl63 fxAr63 fxFi63x0 fxFi63x1 fxPl63 fxSz76 fxBy76 fxAg76 fxZe76 fxSl76 fxAr76 fxPl76 fxSz83 fxBy83 fxAg83 fxZe83 fxSl83 fxAr83 fxFi83x0 fxFi83x1 fxFi83x2 fxPl83 fxSz84 fxBy84 fxAg84 fxZe84 fxSl84 fxAr84 fxFi84x0 fxFi84x1 fxFi84x2 fxPl84 fxSz99 fxBy99 fxAg99 fxZe99 fxSl99 fxAr99 fxPl99 fxSz106 fxBy106 fxAg106 fxZe106 fxSl106 fxAr106 fxPl106 fxSz107 fxBy107 fxAg107 fxZe107 fxSl107 fxAr107 fxFi107x0 fxPl107 fxSz113 fxBy113 fxAg113 fxZe113 fxSl113 fxAr113 fxPl113 fxSz118 fxBy118 fxAg118 fxZe118 fxSl118 fxAr118 fxPl118 fxEq28 fxEq55 fxEq56 fxEq84 fxCv2x2 fxCv2x3 fxCv2x5 fxCv2x12 fxCv2x21 fxCv2x29 fxCv2x45 fxCv3x2 fxCv3x3 fxCv3x5 fxCv3x12 fxCv3x21 fxCv3x29 fxCv3x45 fxCv5x2 fxCv5x3 fxCv5x5 fxCv5x12 fxCv5x21 fxCv5x29 fxCv5x45 fxCv12x2 fxCv12x3 fxCv12x5 fxCv12x12 fxCv12x21 fxCv12x29 fxCv12x45 fxCv21x2 fxCv21x3 fxCv21x5 fxCv21x12 fxCv21x21 fxCv21x29 fxCv21x45 fxCv29x2 fxCv29x3 fxCv29x5 fxCv29x12 fxCv29x21 fxCv29x29 fxCv29x45 fxCv45x2 fxCv45x3 fxCv45x5 fxCv45x12 fxCv45x21 fxCv45x29 fxCv45x45 fxEb4 fxNb4 fxLt9 fxLn22 fxNe22 fxNn22 fxOe22 fxOn22 fxXe22 fxXn22 fxLn44 fxNe44 fxNn44 fxOe44 fxOn44 fxXe44 fxXn44 fxLn52 fxNe52 fxNn52 fxOe52 fxOn52 fxXe52 fxXn52 fxLn60 fxNe60 fxNn60 fxOe60 fxOn60 fxXe60 fxXn60 fxLn61 fxNe61 fxNn61 fxOe61 fxOn61 fxXe61 fxXn61 fxLn76 fxNe76 fxNn76 fxOe76 fxOn76 fxXe76 fxXn76 fxFn3 fxFm3 fxFb3 fxFi3 fxFj3 fxFn4 fxFm4 fxFb4 fxFi4 fxFj4 fxFn5 fxFm5 fxFb5 fxFi5 fxFj5 fxFn6 fxFm6 fxFb6 fxFi6 fxFj6 fxFn7 fxFm7 fxFb7 fxFi7 fxFj7 fxFn8 fxFm8 fxFb8 fxFi8 fxFj8 fxFn9 fxFm9 fxFb9 fxFi9 fxFj9 fxFn10 fxFm10 fxFb10 fxFi10 fxFj10 fxFn11 fxFm11 fxFb11 fxFi11 fxFj11 fxFn12 fxFm12 fxFb12 fxFi12 fxFj12 fxFn13 fxFm13 fxFb13 fxFi13 fxFj13 fxFn14 fxFm14 fxFb14 fxFi14 fxFj14 fxFn15 fxFm15 fxFb15 fxFi15 fxFj15 fxFn16 fxFm16 fxFb16 fxFi16 fxFj16 fxFn17 fxFm17 fxFb17 fxFi17 fxFj17 fxFn18 fxFm18 fxFb18 fxFi18 fxFj18 fxFn19 fxFm19 fxFb19 fxFi19 fxFj19 fxFn20 fxFm20 fxFb20 fxFi20 fxFj20 fxFn21 fxFm21 fxFb21 fxFi21 fxFj21 fxFn22 fxFm22 fxFb22 fxFi22 fxFj22 fxFn23 fxFm23 fxFb23 fxFi23 fxFj23 fxFn24 fxFm24 fxFb24 fxFi24 fxFj24 fxFn25 fxFm25 fxFb25 fxFi25 fxFj25 fxFn26 fxFm26 fxFb26 fxFi26 fxFj26 fxFn27 fxFm27 fxFb27 fxFi27 fxFj27 fxFn28 fxFm28 fxFb28 fxFi28 fxFj28 fxFn29 fxFm29 fxFb29 fxFi29 fxFj29 fxFn30 fxFm30 fxFb30 fxFi30 fxFj30 fxFn31 fxFm31 fxFb31 fxFi31 fxFj31 fxFn32 fxFm32 fxFb32 fxFi32 fxFj32 fxFn33 fxFm33 fxFb33 fxFi33 fxFj33 fxFn34 fxFm34 fxFb34 fxFi34 fxFj34 fxFn35 fxFm35 fxFb35 fxFi35 fxFj35 fxFn36 fxFm36 fxFb36 fxFi36 fxFj36 fxFn37 fxFm37 fxFb37 fxFi37 fxFj37 fxFn38 fxFm38 fxFb38 fxFi38 fxFj38 fxFn39 fxFm39 fxFb39 fxFi39 fxFj39 fxFn40 fxFm40 fxFb40 fxFi40 fxFj40 fxFn41 fxFm41 fxFb41 fxFi41 fxFj41 fxFn42 fxFm42 fxFb42 fxFi42 fxFj42 fxFn43 fxFm43 fxFb43 fxFi43 fxFj43 fxFn44 fxFm44 fxFb44 fxFi44 fxFj44 fxFn45 fxFm45 fxFb45 fxFi45 fxFj45 fxFn46 fxFm46 fxFb46 fxFi46 fxFj46 fxFn47 fxFm47 fxFb47 fxFi47 fxFj47 fxFn48 fxFm48 fxFb48 fxFi48 fxFj48 fxFn49 fxFm49 fxFb49 fxFi49 fxFj49 fxFn50 fxFm50 fxFb50 fxFi50 fxFj50 fxFn51 fxFm51 fxFb51 fxFi51 fxFj51 fxFn52 fxFm52 fxFb52 fxFi52 fxFj52 fxFn53 fxFm53 fxFb53 fxFi53 fxFj53 fxFn54 fxFm54 fxFb54 fxFi54 fxFj54 fxFn55 fxFm55 fxFb55 fxFi55 fxFj55 fxFn56 fxFm56 fxFb56 fxFi56 fxFj56 fxFn57 fxFm57 fxFb57 fxFi57 fxFj57 fxFn58 fxFm58 fxFb58 fxFi58 fxFj58 fxFn59 fxFm59 fxFb59 fxFi59 fxFj59 fxFn60 fxFm60 fxFb60 fxFi60 fxFj60
attribute [local simp] Ln.eta Ln.cold Ln.mapM Ln.mapMc Ln.view Ln.viewc Ln.hotR Ln.ren Ln.renc Ln.low Ln.tau Ln.tauc Ln.bare Ln.flat Ln.flat1 Ln.mapMt Ln.mapMd Ln.coldt Ln.coldd Ln.hotRt Ln.hotRd
attribute [local simp] Od.eta Od.cold Od.mapM Od.mapMc Od.view Od.viewc Od.hotR Od.ren Od.renc Od.low Od.tau Od.tauc Od.bare Od.flat Od.flat1 Od.mapMt Od.mapMd Od.coldt Od.coldd Od.hotRt Od.hotRd
attribute [local simp] Cpu.eta Cpu.dec_row Cpu.dec_hrow Cpu.cold Cpu.hcold Cpu.mapM Cpu.mapMc Cpu.hmapM Cpu.hmapMc Cpu.view Cpu.viewc Cpu.hview Cpu.hviewc Cpu.hotR Cpu.ren Cpu.renc Cpu.low Cpu.hlow
theorem shoots_pure : PureOk Try.prog 10 (argM (cSl rCpu) fun l => argM (cInt .i64) fun b => argM (cAgg rOd) fun o => argM (cInt .i64) fun page => finM (some (.v (.bool true)))) := by
  refine pure4 Try.func10 rfl ?_
  rintro l b o page r hr
  simp only [Option.some.injEq] at hr
  subst hr
  refine body_gen (((((noOrc_ok.withP tlShoot_pure).withP tlbs_pure).withP tlDone_pure).withP tlLook_pure).withI serve_inl) fxMix (by kernel_rfl) (by simp [Try.ntmps10]) ?_
  intro C cP cI cN cD cF cA
  have cp0 := orcP tlShoot_pure (C := C) (by rw [cP]; rfl)
  have cp1 := orcP tlbs_pure (C := C) (by rw [cP]; rfl)
  have cp2 := orcP tlDone_pure (C := C) (by rw [cP]; rfl)
  have cp3 := orcP tlLook_pure (C := C) (by rw [cP]; rfl)
  have cn0 := orcI serve_inl (C := C) (by rw [cN]; rfl)
  replace cI := fun g => congrFun cI g
  simp only [Orc.withP, Orc.withI, Orc.withF, Orc.withD, Orc.withA, noOrc] at cI
  replace cD : C.dyn = fun _ => [] := cD
  clear cP cN cF cA
  cases h1 : tlShoot l b o with
  | error e =>
    have he := shoot_err h1
    simp [Try.ntmps10, Try.results10, cSl, cp0, cp1, cp2, cp3, cn0, cI, cD, rCpu, cpuDec, Cpu.row, Cpu.hrow, rLn, lnDec, rOd, odDec, Od.row, h1, he, flE]
    done
  | ok x =>
    obtain ⟨g0, g1, hcx, hxl, _⟩ := shoot_ok h1
    have hx1 : 1 ≤ x.length ∧ x.length ≤ 4 := tlCheck_len hcx
    have hE : 1 < x.length → tlDoneB x o = false := shoot_early h1
    have hbm : ¬ (tlDoneB x o = true ∧ 1 < x.length) := fun hh => by rw [hE hh.2] at hh; cases hh.1
    have hloop : ∀ p : Int, (o.page < 0 ∨ o.page = p) → Gone o p x := fun p hp => shoot_gone h1 hp
    have hsd : tlDoneB (srvAll x) o = true := srvd_done hcx o
    have hsc : tlCheck (srvAll x) = 0 := srvd_check hcx
    have hlk : ∀ p : Int, (o.page < 0 ∨ o.page = p) → ∀ i : Nat, i < x.length → tlChk (srvAll x) i = 0 ∧ tlLookB (srvAll x) i o.space p = false := fun p hp i hi => gone_look hcx hp (hloop p hp) i hi
    have hsl := srvAll_len x
    by_cases hE2 : 1 < x.length
    · have hE3 := hE hE2
      have hE2' : (1 : Int) < x.length := by omega
      by_cases hp : 0 ≤ o.page
      · simp [Try.ntmps10, Try.results10, cSl, cp0, cp1, cp2, cp3, cn0, cI, cD, rCpu, cpuDec, Cpu.row, Cpu.hrow, rLn, lnDec, rOd, odDec, Od.row, h1, flE, hcx, hE2', hE3, passI, hp, hsl]
        refine loop_for x.length (fun k (_ : Unit) => ([(3, .v (.int .i64 o.page)), (6, .ptr 0 2 0 0), (9, .fsl false 2 ((srvAll x).map Cpu.row)), (67, .v (.int .i64 x.length)), (68, .v (.int .i64 k))], [some (2, [[.v (.int .i64 o.space), .v (.int .i64 o.page)]])])) (fun _ _ => True) () (by omega) trivial (by simp [hsl]) ?_ ?_
        · rintro k _ hk _ hw
          obtain ⟨q1, q2⟩ := hlk o.page (.inr rfl) k hk
          simp [Try.ntmps10, Try.results10, cSl, cp0, cp1, cp2, cp3, cn0, cI, cD, hk, hw, q1, q2, rCpu, cpuDec, rLn, lnDec, rOd, odDec]
          done
        · rintro _ _
          simp [Try.ntmps10, Try.results10, cSl, cp0, cp1, cp2, cp3, cn0, cI, cD, rCpu, cpuDec, rLn, lnDec, rOd, odDec, Od.row, hsd, hsc]
          done
      · simp [Try.ntmps10, Try.results10, cSl, cp0, cp1, cp2, cp3, cn0, cI, cD, rCpu, cpuDec, Cpu.row, Cpu.hrow, rLn, lnDec, rOd, odDec, Od.row, h1, flE, hcx, hE2', hE3, passI, hp, hsl]
        refine loop_for x.length (fun k (_ : Unit) => ([(3, .v (.int .i64 page)), (6, .ptr 0 2 0 0), (9, .fsl false 2 ((srvAll x).map Cpu.row)), (67, .v (.int .i64 x.length)), (68, .v (.int .i64 k))], [some (2, [[.v (.int .i64 o.space), .v (.int .i64 o.page)]])])) (fun _ _ => True) () (by omega) trivial (by simp [hsl]) ?_ ?_
        · rintro k _ hk _ hw
          obtain ⟨q1, q2⟩ := hlk page (.inl (by omega)) k hk
          simp [Try.ntmps10, Try.results10, cSl, cp0, cp1, cp2, cp3, cn0, cI, cD, hk, hw, q1, q2, rCpu, cpuDec, rLn, lnDec, rOd, odDec]
          done
        · rintro _ _
          simp [Try.ntmps10, Try.results10, cSl, cp0, cp1, cp2, cp3, cn0, cI, cD, rCpu, cpuDec, rLn, lnDec, rOd, odDec, Od.row, hsd, hsc]
          done
    · have hE2' : ¬ (1 : Int) < x.length := by omega
      by_cases hp : 0 ≤ o.page
      · simp [Try.ntmps10, Try.results10, cSl, cp0, cp1, cp2, cp3, cn0, cI, cD, rCpu, cpuDec, Cpu.row, Cpu.hrow, rLn, lnDec, rOd, odDec, Od.row, h1, flE, hcx, hE2', passI, hp, hsl]
        refine loop_for x.length (fun k (_ : Unit) => ([(3, .v (.int .i64 o.page)), (6, .ptr 0 2 0 0), (9, .fsl false 2 ((srvAll x).map Cpu.row)), (67, .v (.int .i64 x.length)), (68, .v (.int .i64 k))], [some (2, [[.v (.int .i64 o.space), .v (.int .i64 o.page)]])])) (fun _ _ => True) () (by omega) trivial (by simp [hsl]) ?_ ?_
        · rintro k _ hk _ hw
          obtain ⟨q1, q2⟩ := hlk o.page (.inr rfl) k hk
          simp [Try.ntmps10, Try.results10, cSl, cp0, cp1, cp2, cp3, cn0, cI, cD, hk, hw, q1, q2, rCpu, cpuDec, rLn, lnDec, rOd, odDec]
          done
        · rintro _ _
          simp [Try.ntmps10, Try.results10, cSl, cp0, cp1, cp2, cp3, cn0, cI, cD, rCpu, cpuDec, rLn, lnDec, rOd, odDec, Od.row, hsd, hsc]
          done
      · simp [Try.ntmps10, Try.results10, cSl, cp0, cp1, cp2, cp3, cn0, cI, cD, rCpu, cpuDec, Cpu.row, Cpu.hrow, rLn, lnDec, rOd, odDec, Od.row, h1, flE, hcx, hE2', passI, hp, hsl]
        refine loop_for x.length (fun k (_ : Unit) => ([(3, .v (.int .i64 page)), (6, .ptr 0 2 0 0), (9, .fsl false 2 ((srvAll x).map Cpu.row)), (67, .v (.int .i64 x.length)), (68, .v (.int .i64 k))], [some (2, [[.v (.int .i64 o.space), .v (.int .i64 o.page)]])])) (fun _ _ => True) () (by omega) trivial (by simp [hsl]) ?_ ?_
        · rintro k _ hk _ hw
          obtain ⟨q1, q2⟩ := hlk page (.inl (by omega)) k hk
          simp [Try.ntmps10, Try.results10, cSl, cp0, cp1, cp2, cp3, cn0, cI, cD, hk, hw, q1, q2, rCpu, cpuDec, rLn, lnDec, rOd, odDec]
          done
        · rintro _ _
          simp [Try.ntmps10, Try.results10, cSl, cp0, cp1, cp2, cp3, cn0, cI, cD, rCpu, cpuDec, rLn, lnDec, rOd, odDec, Od.row, hsd, hsc]
          done
end Go.Proofs.Ytdhpgdfjogklaaa
namespace Go.Proofs.Ytdhpgdfjogklaaa
open Go.AI
set_option maxHeartbeats 2000000
set_option maxRecDepth 100000
set_option linter.unusedSimpArgs false
set_option linter.unusedVariables false
attribute [local simp] wpA wpX RunA RunD runF foot footP footB idsA bare apart runL step1 gsel_f gsel_t gsel_s res_same res_and1 res_and2 res_and3 res_and4 res_and5 res_and6 res_false res_true res_v res_ptr res_fptr res_osl res_xsl soft aAppendZ aCap ovlI ovlJ res_fsl res_esl res_agg res_tup res_fn res_junk res_anyb aPick hk imp_left iteV dstOk guardOk astep astepE AI.ev AI.look AI.put envOf aBox cellsOf allOne allOneA oneA Value.oneCell' Value.cells newObj' aFieldAddr aLoad obj readAt thenA blockA condA retA resA tupA view hot hotC hotR depthV cAgg cInt cBool mkAgg allV aAlloc aBuild fillA writeAt aStore isAggA aField idx aIndexAddr aIndex bnd aSlice aExtract aLen aBuiltin aCall isStatic eqAgg eqTy eqC ev_add ev_sub ev_mul ev_quo ev_rem ev_and ev_or ev_xor ev_andNot ev_shl ev_shr ev_eql ev_neq ev_lss ev_leq ev_gtr ev_geq ev_agg w64 wu32 wu8 ev_not ev_neg Cod.plain RCod.plain argM finM cold coldC coldR goInt intDec boolDec aggDec Weaker heapW lowA lowC Again slDec undef aBuildSlice setRows aAppend rowsOf aMakeSlice aClear aCopy softer_self softer_nil valsOf ev_min2 ev_max2 hotR_set hotR_append take_map_set irow_cold irow_mapM irow_mapMc irow_view irow_viewc irow_hotR irow_ren irow_renc irow_low WeakT heapT thOf ren renC AgainT NextF NextT fnDec cFn rNil selfLt natLt0 natLt1 getLastMap frame0 frame1 own0 own1 argG finG tau tauI tauO tauC bareA bareC bareH irow_tau irow_tauc irow_bare irow_flat irow_bareR ownA_nil ownT_nil ownA_c ownT_c ownA_s ownT_s takeMapLen footC plainA noId noIdC cloneF frame0F frame1F insertF replaceI replaceF cellDec rCell fpDec cFp rTwo deleteF allV_oA oneA_oA res_oA RunR RunE runFT footAt hotR_cat tmodN fxSz2 fxBy2 fxAg2 fxZe2 fxSl2 fxAr2 fxPl2 fxSz3 fxBy3 fxAg3 fxZe3 fxSl3 fxAr3 fxPl3 fxSz4 fxBy4 fxAg4 fxZe4 fxSl4 fxAr4 fxPl4 fxSz5 fxBy5 fxAg5 fxZe5 fxSl5 fxAr5 fxPl5 fxSz9 fxBy9 fxAg9 fxZe9 fxSl9 fxAr9 fxPl9 fxSz12 fxBy12 fxAg12 fxZe12 fxSl12 fxAr12 fxPl12 fxSz13 fxBy13 fxAg13 fxZe13 fxSl13 fxAr13 fxFi13x0 fxFi13x1 fxPl13 fxSz21 fxBy21 fxAg21 fxZe21 fxSl21 fxAr21 fxPl21 fxSz22 fxBy22 fxAg22 fxZe22 fxSl22 fxAr22 fxPl22 fxSz23 fxBy23 fxAg23 fxZe23 fxSl23 fxAr23 fxFi23x0 fxFi23x1 fxPl23 fxSz24 fxBy24 fxAg24 fxZe24 fxSl24 fxAr24 fxFi24x0 fxFi24x1 fxPl24 fxSz25 fxBy25 fxAg25 fxZe25 fxSl25 fxAr25 fxPl25 fxSz26 fxBy26 fxAg26 fxZe26 fxSl26 fxAr26 fxPl26 fxSz27 fxBy27 fxAg27 fxZe27 fxSl27 fxAr27 fxFi27x0 fxFi27x1 fxFi27x2 fxFi27x3 fxFi27x4 fxFi27x5 fxFi27x6 fxPl27 fxSz28 fxBy28 fxAg28 fxZe28 fxSl28 fxAr28 fxFi28x0 fxFi28x1 fxFi28x2 fxFi28x3 fxFi28x4 fxFi28x5 fxFi28x6 fxPl28 fxSz29 fxBy29 fxAg29 fxZe29 fxSl29 fxAr29 fxPl29 fxSz44 fxBy44 fxAg44 fxZe44 fxSl44 fxAr44 fxPl44 fxSz45 fxBy45 fxAg45 fxZe45 fxSl45 fxAr45 fxPl45 fxSz52 fxBy52 fxAg52 fxZe52 fxSl52 fxAr52 fxPl52 fxSz54 fxBy54 fxAg54 fxZe54 fxSl54 fxAr54 fxFi54x0 fxFi54x1 fxPl54 fxSz55 fxBy55 fxAg55 fxZe55 fxSl55 fxAr55 fxFi55x0 fxFi55x1 fxPl55 fxSz56 fxBy56 fxAg56 fxZe56 fxSl56 fxAr56 fxPl56 fxSz60 fxBy60 fxAg60 fxZe60 fxSl60 fxAr60 fxPl60 fxSz61 fxBy61 fxAg61 fxZe61 fxSl61 fxAr61 fxPl61 fxSz62 fxBy62 fxAg62 fxZe62 fxSl62 fxAr62 fxFi62x0 fxFi62x1 fxPl62 fxSz63 fxBy63 fxAg63 fxZe63 fxSl63 fxAr63 fxFi63x0 fxFi63x1 fxPl63 fxSz76 fxBy76 fxAg76 fxZe76 fxSl76 fxAr76 fxPl76 fxSz83 fxBy83 fxAg83 fxZe83 fxSl83 fxAr83 fxFi83x0 fxFi83x1 fxFi83x2 fxPl83 fxSz84 fxBy84 fxAg84 fxZe84 fxSl84 fxAr84 fxFi84x0 fxFi84x1 fxFi84x2 fxPl84 fxSz99 fxBy99 fxAg99 fxZe99 fxSl99 fxAr99 fxPl99 fxSz106 fxBy106 fxAg106 fxZe106 fxSl106 fxAr106 fxPl106 fxSz107 fxBy107 fxAg107 fxZe107 fxSl107 fxAr107 fxFi107x0 fxPl107 fxSz113 fxBy113 fxAg113 fxZe113 fxSl113 fxAr113 fxPl113 fxSz118 fxBy118 fxAg118 fxZe118 fxSl118 fxAr118 fxPl118 fxEq28 fxEq55 fxEq56 fxEq84 fxCv2x2 fxCv2x3 fxCv2x5 fxCv2x12 fxCv2x21 fxCv2x29 fxCv2x45 fxCv3x2 fxCv3x3 fxCv3x5 fxCv3x12 fxCv3x21 fxCv3x29 fxCv3x45 fxCv5x2 fxCv5x3 fxCv5x5 fxCv5x12 fxCv5x21 fxCv5x29 fxCv5x45 fxCv12x2 fxCv12x3 fxCv12x5 fxCv12x12 fxCv12x21 fxCv12x29 fxCv12x45 fxCv21x2 fxCv21x3 fxCv21x5 fxCv21x12 fxCv21x21 fxCv21x29 fxCv21x45 fxCv29x2 fxCv29x3 fxCv29x5 fxCv29x12 fxCv29x21 fxCv29x29 fxCv29x45 fxCv45x2 fxCv45x3 fxCv45x5 fxCv45x12 fxCv45x21 fxCv45x29 fxCv45x45 fxEb4 fxNb4 fxLt9 fxLn22 fxNe22 fxNn22 fxOe22 fxOn22 fxXe22 fxXn22 fxLn44 fxNe44 fxNn44 fxOe44 fxOn44 fxXe44 fxXn44 fxLn52 fxNe52 fxNn52 fxOe52 fxOn52 fxXe52 fxXn52 fxLn60 fxNe60 fxNn60 fxOe60 fxOn60 fxXe60 fxXn60 fxLn61 fxNe61 fxNn61 fxOe61 fxOn61 fxXe61 fxXn61 fxLn76 fxNe76 fxNn76 fxOe76 fxOn76 fxXe76 fxXn76 fxFn3 fxFm3 fxFb3 fxFi3 fxFj3 fxFn4 fxFm4 fxFb4 fxFi4 fxFj4 fxFn5 fxFm5 fxFb5 fxFi5 fxFj5 fxFn6 fxFm6 fxFb6 fxFi6 fxFj6 fxFn7 fxFm7 fxFb7 fxFi7 fxFj7 fxFn8 fxFm8 fxFb8 fxFi8 fxFj8 fxFn9 fxFm9 fxFb9 fxFi9 fxFj9 fxFn10 fxFm10 fxFb10 fxFi10 fxFj10 fxFn11 fxFm11 fxFb11 fxFi11 fxFj11 fxFn12 fxFm12 fxFb12 fxFi12 fxFj12 fxFn13 fxFm13 fxFb13 fxFi13 fxFj13 fxFn14 fxFm14 fxFb14 fxFi14 fxFj14 fxFn15 fxFm15 fxFb15 fxFi15 fxFj15 fxFn16 fxFm16 fxFb16 fxFi16 fxFj16 fxFn17 fxFm17 fxFb17 fxFi17 fxFj17 fxFn18 fxFm18 fxFb18 fxFi18 fxFj18 fxFn19 fxFm19 fxFb19 fxFi19 fxFj19 fxFn20 fxFm20 fxFb20 fxFi20 fxFj20 fxFn21 fxFm21 fxFb21 fxFi21 fxFj21 fxFn22 fxFm22 fxFb22 fxFi22 fxFj22 fxFn23 fxFm23 fxFb23 fxFi23 fxFj23 fxFn24 fxFm24 fxFb24 fxFi24 fxFj24 fxFn25 fxFm25 fxFb25 fxFi25 fxFj25 fxFn26 fxFm26 fxFb26 fxFi26 fxFj26 fxFn27 fxFm27 fxFb27 fxFi27 fxFj27 fxFn28 fxFm28 fxFb28 fxFi28 fxFj28 fxFn29 fxFm29 fxFb29 fxFi29 fxFj29 fxFn30 fxFm30 fxFb30 fxFi30 fxFj30 fxFn31 fxFm31 fxFb31 fxFi31 fxFj31 fxFn32 fxFm32 fxFb32 fxFi32 fxFj32 fxFn33 fxFm33 fxFb33 fxFi33 fxFj33 fxFn34 fxFm34 fxFb34 fxFi34 fxFj34 fxFn35 fxFm35 fxFb35 fxFi35 fxFj35 fxFn36 fxFm36 fxFb36 fxFi36 fxFj36 fxFn37 fxFm37 fxFb37 fxFi37 fxFj37 fxFn38 fxFm38 fxFb38 fxFi38 fxFj38 fxFn39 fxFm39 fxFb39 fxFi39 fxFj39 fxFn40 fxFm40 fxFb40 fxFi40 fxFj40 fxFn41 fxFm41 fxFb41 fxFi41 fxFj41 fxFn42 fxFm42 fxFb42 fxFi42 fxFj42 fxFn43 fxFm43 fxFb43 fxFi43 fxFj43 fxFn44 fxFm44 fxFb44 fxFi44 fxFj44 fxFn45 fxFm45 fxFb45 fxFi45 fxFj45 fxFn46 fxFm46 fxFb46 fxFi46 fxFj46 fxFn47 fxFm47 fxFb47 fxFi47 fxFj47 fxFn48 fxFm48 fxFb48 fxFi48 fxFj48 fxFn49 fxFm49 fxFb49 fxFi49 fxFj49 fxFn50 fxFm50 fxFb50 fxFi50 fxFj50 fxFn51 fxFm51 fxFb51 fxFi51 fxFj51 fxFn52 fxFm52 fxFb52 fxFi52 fxFj52 fxFn53 fxFm53 fxFb53 fxFi53 fxFj53 fxFn54 fxFm54 fxFb54 fxFi54 fxFj54 fxFn55 fxFm55 fxFb55 fxFi55 fxFj55 fxFn56 fxFm56 fxFb56 fxFi56 fxFj56 fxFn57 fxFm57 fxFb57 fxFi57 fxFj57 fxFn58 fxFm58 fxFb58 fxFi58 fxFj58 fxFn59 fxFm59 fxFb59 fxFi59 fxFj59 fxFn60 fxFm60 fxFb60 fxFi60 fxFj60
attribute [local simp] Ln.eta Ln.cold Ln.mapM Ln.mapMc Ln.view Ln.viewc Ln.hotR Ln.ren Ln.renc Ln.low Ln.tau Ln.tauc Ln.bare Ln.flat Ln.flat1 Ln.mapMt Ln.mapMd Ln.coldt Ln.coldd Ln.hotRt Ln.hotRd
attribute [local simp] Od.eta Od.cold Od.mapM Od.mapMc Od.view Od.viewc Od.hotR Od.ren Od.renc Od.low Od.tau Od.tauc Od.bare Od.flat Od.flat1 Od.mapMt Od.mapMd Od.coldt Od.coldd Od.hotRt Od.hotRd
attribute [local simp] Cpu.eta Cpu.dec_row Cpu.dec_hrow Cpu.cold Cpu.hcold Cpu.mapM Cpu.mapMc Cpu.hmapM Cpu.hmapMc Cpu.view Cpu.viewc Cpu.hview Cpu.hviewc Cpu.hotR Cpu.ren Cpu.renc Cpu.low Cpu.hlow
structure P2 where
  a : Int
  b : Int
  deriving DecidableEq
def p2Dec : Row → Option P2
  | [.v (.int .i64 x0), .v (.int .i64 x1)] => some ⟨x0, x1⟩
  | _ => none
def P2.row (e : P2) : Row := [.v (.int .i64 e.a), .v (.int .i64 e.b)]
def rP2 : RCod P2 := RCod.plain 2 P2.row p2Dec
  (fun e => rfl) (fun _ => rfl) (fun r e h => by
    unfold p2Dec at h
    split at h
    · simp at h; subst h; rfl
    · cases h)
def P2.val (e : P2) : Value := .agg #[.int .i64 e.a, .int .i64 e.b]
theorem P2.eta (e : P2) : P2.mk e.a e.b = e := rfl
attribute [local simp] P2.eta
theorem P2.cold (l : List P2) : coldR (l.map P2.row) = l.map P2.row := by
  induction l with
  | nil => simp [coldR]
  | cons e l ih => simp [coldR, coldC, AI.cold, ih, P2.row]
theorem P2.mapM (l : List P2) : (l.map P2.row).mapM p2Dec = some l := mapM_dec rP2 l
theorem P2.mapMc (l : List P2) : l.mapM (p2Dec ∘ P2.row) = some l := mapM_dec' rP2 l
theorem P2.view (H : Heap) (n : Nat) (e : P2) : List.map (AI.view H n) e.row = e.row := by cases n <;> simp [P2.row, AI.view]
theorem P2.viewc (H : Heap) (n : Nat) : List.map (AI.view H n) ∘ P2.row = P2.row := by funext e; exact P2.view H n e
theorem P2.hotR (l : List P2) : AI.hotR (l.map P2.row) = true := by
  induction l with
  | nil => simp [AI.hotR]
  | cons e l ih => simp [AI.hotR, hotC, hot, ih, P2.row]
theorem P2.ren (n : Nat) (th : List Nat) (e : P2) : List.map (AI.ren n th) e.row = e.row := by simp [P2.row, AI.ren]
theorem P2.renc (n : Nat) (th : List Nat) : List.map (AI.ren n th) ∘ P2.row = P2.row := by funext e; exact P2.ren n th e
theorem P2.low (n : Nat) (e : P2) : e.row.all (lowA n) = true := by simp [P2.row, lowA]
theorem P2.tau (fp : List Nat) (n : Nat) (e : P2) : List.map (AI.tau fp n) e.row = e.row := by simp [P2.row, AI.tau]
theorem P2.tauc (fp : List Nat) (n : Nat) : List.map (AI.tau fp n) ∘ P2.row = P2.row := by funext e; exact P2.tau fp n e
theorem P2.bare (e : P2) : e.row.all bareA = true := by simp [P2.row, bareA]
theorem P2.flat (l : List P2) : flat0 (l.map P2.row) = true := by simp [flat0, P2.low]
theorem P2.flat1 (e : P2) : flat0 [e.row] = true := by simp [flat0, P2.low]
theorem P2.exact : Exact rP2 := by
  intro r e h
  simp only [rP2, RCod.plain] at h ⊢
  unfold p2Dec at h
  split at h
  · simp at h; subst h; rfl
  · cases h
theorem P2.mapMt (k : Nat) (l : List P2) : (List.take k (l.map P2.row)).mapM p2Dec = some (l.take k) := by rw [← List.map_take]; exact mapM_dec rP2 _
theorem P2.mapMd (k : Nat) (l : List P2) : (List.drop k (l.map P2.row)).mapM p2Dec = some (l.drop k) := by rw [← List.map_drop]; exact mapM_dec rP2 _
theorem P2.coldt (k : Nat) (l : List P2) : coldR (List.take k (l.map P2.row)) = List.take k (l.map P2.row) := by rw [← List.map_take]; exact P2.cold _
theorem P2.coldd (k : Nat) (l : List P2) : coldR (List.drop k (l.map P2.row)) = List.drop k (l.map P2.row) := by rw [← List.map_drop]; exact P2.cold _
theorem P2.hotRt (k : Nat) (l : List P2) : AI.hotR (List.take k (l.map P2.row)) = true := by rw [← List.map_take]; exact P2.hotR _
theorem P2.hotRd (k : Nat) (l : List P2) : AI.hotR (List.drop k (l.map P2.row)) = true := by rw [← List.map_drop]; exact P2.hotR _
attribute [local simp] P2.hotRt P2.hotRd
attribute [local simp] P2.tau P2.tauc P2.bare P2.flat P2.flat1 P2.mapMt P2.mapMd P2.coldt P2.coldd
attribute [local simp] P2.cold P2.mapM P2.mapMc P2.view P2.viewc P2.hotR P2.ren P2.renc P2.low
def Od.mt (x : Od) (s p : Int) : Bool := decide (x.space = s ∧ (x.page < 0 ∨ x.page = p))
theorem keeps1_pure : PureOk Try.prog 26 (argM (cAgg rOd) fun x => argM (cFp (rI .i64)) fun a => argM (cFp (rI .i64)) fun b => finM (some (.v (.bool (x.mt a b))))) := by
  refine pure3 Try.func26 rfl ?_
  rintro x a b r hr
  simp only [Option.some.injEq] at hr
  subst hr
  refine body_gen noOrc_ok fxMix (by kernel_rfl) (by simp [Try.ntmps26]) ?_
  intro C cP cI cN cD cF cA
  replace cI : C.inl = fun _ => false := cI
  replace cD : C.dyn = fun _ => [] := cD
  clear cP cN cF cA
  unfold Od.mt
  by_cases h1 : x.space = a <;> by_cases h2 : x.page < 0 <;> by_cases h3 : x.page = b <;> simp [Try.ntmps26, Try.results26, cSl, cI, cD, rOd, Od.row, odDec, rI, irow, h1, h2, h3]
theorem keepsI_pure : PureOk Try.prog 47 (argM (cSl rOd) fun l => argM (cFn 26 rCapL) fun cp => finM (if l.length ≤ 4294967296 then some (.v (.int .i64 (idxP ((fun x => x.mt cp.1 cp.2)) l))) else none)) := by
  refine pure2 Try.func47 rfl ?_
  rintro l cp r hr
  by_cases hc : l.length ≤ 4294967296
  case neg => rw [if_neg hc] at hr; cases hr
  rw [if_pos hc] at hr
  simp only [Option.some.injEq] at hr
  subst hr
  refine body_gen (noOrc_ok.withP keeps1_pure) fxMix (by kernel_rfl) (by simp [Try.ntmps47]) ?_
  intro C cP cI cN cD cF cA
  have cp0 := orcP keeps1_pure (C := C) (by rw [cP]; rfl)
  replace cI : C.inl = fun _ => false := cI
  replace cD : C.dyn = fun _ => [] := cD
  clear cP cN cF cA
  simp [Try.ntmps47, Try.results47, cSl, cp0, cI, cD, rOd, Od.row, odDec, rCapL, rI, irow, irowDec]
  refine loop_for l.length (fun k (_ : Unit) => ([(0, .fsl false 2 (l.map Od.row)), (1, .fn 26 [.fptr (irow .i64 cp.1) 0, .fptr (irow .i64 cp.2) 0]), (7, .v (.int .i64 l.length)), (8, .v (.int .i64 k))], [])) (fun k _ => ((l.drop k).findIdx? ((fun x => x.mt cp.1 cp.2))).map (· + k) = l.findIdx? ((fun x => x.mt cp.1 cp.2))) () hc (by simp) (by simp [rOd, Od.row, odDec, rCapL, rI, irow, irowDec]) ?_ ?_
  · intro k _ hk hall hw
    by_cases q : ((fun x => x.mt cp.1 cp.2)) l[k] = true
    · rw [find_drop hk, if_pos q] at hall
      try simp at q
      simp [Try.ntmps47, Try.results47, cSl, cp0, cI, cD, hk, hw, rOd, Od.row, odDec, rCapL, rI, irow, irowDec, q, idxP, ← hall]
    · rw [find_drop hk, if_neg q] at hall
      try simp at q
      simp [Try.ntmps47, Try.results47, cSl, cp0, cI, cD, hk, hw, rOd, Od.row, odDec, rCapL, rI, irow, irowDec, q]
      simpa using hall
  · intro _ hall
    simp at hall
    simp [Try.ntmps47, Try.results47, cSl, cp0, cI, cD, idxP, ← hall]
theorem keepsC_pure : PureOk Try.prog 25 (argM (cSl rOd) fun l => argM (cFn 26 rCapL) fun cp => finM (if l.length ≤ 4294967296 then some (.v (.bool (l.any ((fun x => x.mt cp.1 cp.2))))) else none)) := by
  refine pure2 Try.func25 rfl ?_
  rintro l cp r hr
  by_cases hc : l.length ≤ 4294967296
  case neg => rw [if_neg hc] at hr; cases hr
  rw [if_pos hc] at hr
  simp only [Option.some.injEq] at hr
  subst hr
  refine body_gen (noOrc_ok.withP keepsI_pure) fxMix (by kernel_rfl) (by simp [Try.ntmps25]) ?_
  intro C cP cI cN cD cF cA
  have cp0 := orcP keepsI_pure (C := C) (by rw [cP]; rfl)
  replace cI : C.inl = fun _ => false := cI
  replace cD : C.dyn = fun _ => [] := cD
  clear cP cN cF cA
  simp [Try.ntmps25, Try.results25, cSl, cp0, cI, cD, hc, idxP_iff, rOd, Od.row, odDec, rCapL, rI, irow, irowDec] <;> (rw [Bool.eq_iff_iff]; simp)
theorem keeps_pure : PureOk Try.prog 9 (argM (cSl rCpu) fun l => argM (cInt .i64) fun b => argM (cAgg rOd) fun o => argM (cInt .i64) fun c => argM (cInt .i64) fun s => argM (cInt .i64) fun p => finM (some (.v (.bool true)))) := by
  refine pure6 Try.func9 rfl ?_
  rintro l b o c s p r hr
  simp only [Option.some.injEq] at hr
  subst hr
  refine body_gen (((((noOrc_ok.withP tlShoot_pure).withP tlbs_pure).withP tlLook_pure).withP keepsC_pure).withI serve_inl) fxMix (by kernel_rfl) (by simp [Try.ntmps9]) ?_
  intro C cP cI cN cD cF cA
  have cp0 := orcP tlShoot_pure (C := C) (by rw [cP]; rfl)
  have cp1 := orcP tlbs_pure (C := C) (by rw [cP]; rfl)
  have cp2 := orcP tlLook_pure (C := C) (by rw [cP]; rfl)
  have cp3 := orcP keepsC_pure (C := C) (by rw [cP]; rfl)
  have cn0 := orcI serve_inl (C := C) (by rw [cN]; rfl)
  replace cI := fun g => congrFun cI g
  simp only [Orc.withP, Orc.withI, Orc.withF, Orc.withD, Orc.withA, noOrc] at cI
  replace cD : C.dyn = fun _ => [] := cD
  clear cP cN cF cA
  by_cases h0 : tlChk l c = 0
  case neg =>
    simp [Try.ntmps9, Try.results9, cSl, cp0, cp1, cp2, cp3, cn0, cI, cD, rCpu, cpuDec, Cpu.row, Cpu.hrow, rLn, lnDec, rOd, odDec, Od.row, h0]
    done
  by_cases h1 : tlLookB l c s p = true
  case neg =>
    simp only [Bool.not_eq_true] at h1
    simp [Try.ntmps9, Try.results9, cSl, cp0, cp1, cp2, cp3, cn0, cI, cD, rCpu, cpuDec, Cpu.row, Cpu.hrow, rLn, lnDec, rOd, odDec, Od.row, h0, h1]
    done
  by_cases h2 : s = o.space ∧ (o.page < 0 ∨ o.page = p)
  case pos =>
    obtain ⟨q1, q2⟩ := h2
    by_cases q3 : o.page < 0
    · simp [Try.ntmps9, Try.results9, cSl, cp0, cp1, cp2, cp3, cn0, cI, cD, rCpu, cpuDec, Cpu.row, Cpu.hrow, rLn, lnDec, rOd, odDec, Od.row, h0, h1, q1, q3]
      done
    · have q4 := q2.resolve_left q3
      simp [Try.ntmps9, Try.results9, cSl, cp0, cp1, cp2, cp3, cn0, cI, cD, rCpu, cpuDec, Cpu.row, Cpu.hrow, rLn, lnDec, rOd, odDec, Od.row, h0, h1, q1, q3, q4]
      done
  obtain ⟨g0, _, _⟩ := tlChk_iff.1 h0
  obtain ⟨l1, l2, l3⟩ := tlCheck_iff.1 g0
  have h2' := h2
  simp [Try.ntmps9, Try.results9, cSl, cp0, cp1, cp2, cp3, cn0, cI, cD, rCpu, cpuDec, Cpu.row, Cpu.hrow, rLn, lnDec, rOd, odDec, Od.row, h0, h1, h2']
  refine loop_for l.length (fun k (_ : Unit) => ([(0, .fsl false 2 (l.map Cpu.row)), (1, .v (.int .i64 b)), (3, .v (.int .i64 c)), (8, .ptr 0 2 0 0), (10, .ptr 1 1 0 0), (11, .ptr 2 1 0 0), (13, .v (.int .u32 (tlLookW l c s p))), (61, .fsl false 2 (l.map Cpu.row)), (62, .v (.int .i64 l.length)), (63, .v (.int .i64 k))], [some (2, [[.v (.int .i64 o.space), .v (.int .i64 o.page)]]), some (1, [[.v (.int .i64 s)]]), some (1, [[.v (.int .i64 p)]])])) (fun k _ => ∀ y ∈ l.take k, y.orders.any (fun x => x.mt s p) = false) () (by omega) (by simp) (by simp) ?_ ?_
  · rintro k _ hk hall hw
    obtain ⟨_, hO4⟩ := cpuE_len (l3 l[k] (List.getElem_mem hk))
    generalize hck : l[k] = y at *
    obtain ⟨L, O⟩ := y
    have hO : O.length ≤ 4294967296 := by simp at hO4; omega
    cases q : O.any (fun x => x.mt s p) with
    | true =>
      have q' := q
      rw [List.any_eq_true] at q'
      have q2 := eq_true q'
      simp [Try.ntmps9, Try.results9, cSl, cp0, cp1, cp2, cp3, cn0, cI, cD, hk, hw, hck, hO, q, q2, rCpu, Cpu.row, cpuDec, rLn, lnDec, rOd, odDec, rCapL, rI, irow, irowDec]
      done
    | false =>
      have q' : ¬ ∃ x, x ∈ O ∧ x.mt s p = true := by rw [← List.any_eq_true, q]; decide
      have q2 := eq_false q'
      simp [Try.ntmps9, Try.results9, cSl, cp0, cp1, cp2, cp3, cn0, cI, cD, hk, hw, hck, hO, q, q2, rCpu, Cpu.row, cpuDec, rLn, lnDec, rOd, odDec, rCapL, rI, irow, irowDec]
      intro y hy x hx
      rw [List.take_succ_eq_append_getElem hk, List.mem_append] at hy
      rcases hy with hy | hy
      · have := hall y hy
        rw [List.any_eq_false] at this
        simpa using this x hx
      · rw [hck] at hy
        simp at hy
        subst hy
        rw [List.any_eq_false] at q
        simpa using q x hx
  · rintro _ hall
    rw [List.take_length] at hall
    have hl : ∀ y ∈ l, ∀ q ∈ y.orders, ¬ (q.space = s ∧ (q.page < 0 ∨ q.page = p)) := by
      intro y hy q hq hh
      have := hall y hy
      rw [List.any_eq_false] at this
      apply this q hq
      simp [Od.mt, hh]
    cases hs : tlShoot l b o with
    | error e =>
      have he := shoot_err hs
      simp [Try.ntmps9, Try.results9, cSl, cp0, cp1, cp2, cp3, cn0, cI, cD, rCpu, Cpu.row, cpuDec, rLn, lnDec, rOd, odDec, Od.row, hs, he, flE]
      done
    | ok x =>
      obtain ⟨_, _, hcx, _⟩ := shoot_ok hs
      obtain ⟨r1, r2, r3⟩ := shoot_keeps hs h0 h2 hl
      replace r1 : tlChk (srvAll x) c = 0 := r1
      replace r2 : tlLookW (srvAll x) c s p = tlLookW l c s p := r2
      replace r3 : tlLookB (srvAll x) c s p = tlLookB l c s p := r3
      simp [Try.ntmps9, Try.results9, cSl, cp0, cp1, cp2, cp3, cn0, cI, cD, rCpu, Cpu.row, Cpu.hrow, cpuDec, rLn, lnDec, rOd, odDec, Od.row, hs, flE, passI, hcx, r1, r2, r3, h1]
      done
theorem late_pure : PureOk Try.prog 8 (argM (cSl rCpu) fun l => argM (cInt .i64) fun b => argM (cInt .i64) fun c => argM (cInt .i64) fun s => argM (cInt .i64) fun p => argM (cInt .u32) fun w => argM (cSl rP2) fun fs => finM (if fs.length ≤ 4294967296 then some (.v (.bool true)) else none)) := by
  refine pure7 Try.func8 rfl ?_
  rintro l b c s p w fs r hr
  by_cases hc : fs.length ≤ 4294967296
  case neg => rw [if_neg hc] at hr; cases hr
  rw [if_pos hc] at hr
  simp only [Option.some.injEq] at hr
  subst hr
  refine body_gen (((((noOrc_ok.withP tlShoot_pure).withP tlbs_pure).withP tlFill_pure).withP tlLook_pure).withI serve_inl) fxMix (by kernel_rfl) (by simp [Try.ntmps8]) ?_
  intro C cP cI cN cD cF cA
  have cp0 := orcP tlShoot_pure (C := C) (by rw [cP]; rfl)
  have cp1 := orcP tlbs_pure (C := C) (by rw [cP]; rfl)
  have cp2 := orcP tlFill_pure (C := C) (by rw [cP]; rfl)
  have cp3 := orcP tlLook_pure (C := C) (by rw [cP]; rfl)
  have cn0 := orcI serve_inl (C := C) (by rw [cN]; rfl)
  replace cI := fun g => congrFun cI g
  simp only [Orc.withP, Orc.withI, Orc.withF, Orc.withD, Orc.withA, noOrc] at cI
  replace cD : C.dyn = fun _ => [] := cD
  clear cP cN cF cA
  cases h1 : tlShoot l b ⟨s, p⟩ with
  | error e =>
    have he := shoot_err h1
    simp [Try.ntmps8, Try.results8, cSl, cp0, cp1, cp2, cp3, cn0, cI, cD, rCpu, cpuDec, Cpu.row, Cpu.hrow, rLn, lnDec, rOd, odDec, Od.row, h1, he, flE]
    done
  | ok x =>
    by_cases hp : p < 0
    · simp [Try.ntmps8, Try.results8, cSl, cp0, cp1, cp2, cp3, cn0, cI, cD, rCpu, cpuDec, Cpu.row, Cpu.hrow, rLn, lnDec, rOd, odDec, Od.row, h1, hp, flE]
      done
    obtain ⟨g0, g1, hcx, hxl, _⟩ := shoot_ok h1
    have hg0 : Gone ⟨s, p⟩ p x := shoot_gone h1 (.inr rfl)
    simp [Try.ntmps8, Try.results8, cSl, cp0, cp1, cp2, cp3, cn0, cI, cD, rCpu, cpuDec, Cpu.row, Cpu.hrow, rLn, lnDec, rOd, odDec, Od.row, h1, hp, flE]
    refine loop_for fs.length (fun k (a : List Cpu) => ([(2, .v (.int .i64 c)), (3, .v (.int .i64 s)), (4, .v (.int .i64 p)), (5, .v (.int .u32 w)), (15, .fsl true 2 (a.map Cpu.hrow)), (46, .fsl false 2 (fs.map P2.row)), (47, .v (.int .i64 fs.length)), (48, .v (.int .i64 k))], [])) (fun k a => Gone ⟨s, p⟩ p a ∧ tlCheck a = 0 ∧ 1 ≤ a.length ∧ a.length ≤ 4) x hc ⟨hg0, hcx, tlCheck_len hcx⟩ (by simp [rP2]) ?_ ?_
    · rintro k a hk ⟨i1, i2, i3, i4⟩ hw
      generalize hz : fs[k] = z at *
      obtain ⟨u, v⟩ := z
      by_cases h20 : (20 : Int) ≤ k
      · simp [Try.ntmps8, Try.results8, cSl, cp0, cp1, cp2, cp3, cn0, cI, cD, hk, hw, hz, h20, rP2, P2.row, p2Dec]
        exact ⟨a, ⟨i1, i2, i3, i4⟩, rfl⟩
      by_cases hs : u = s ∧ v = p
      · obtain ⟨hu, hv⟩ := hs
        simp [Try.ntmps8, Try.results8, cSl, cp0, cp1, cp2, cp3, cn0, cI, cD, hk, hw, hz, h20, hu, hv, rP2, P2.row, p2Dec]
        exact ⟨a, ⟨i1, i2, i3, i4⟩, rfl⟩
      have hgo : ∀ y, tlFill a c u v w = .ok y → Gone ⟨s, p⟩ p y ∧ tlCheck y = 0 ∧ 1 ≤ y.length ∧ y.length ≤ 4 := fun y hy => by
        obtain ⟨_, _, k', hk', rfl, rfl, h9⟩ := fill_ok hy
        exact ⟨gone_fill (o := ⟨s, p⟩) i1 hy hs, h9, tlCheck_len h9⟩
      cases hf : tlFill a c u v w with
      | error e =>
        have he := fill_err hf
        by_cases hu : u = s
        · have hv : ¬ v = p := fun hv => hs ⟨hu, hv⟩
          subst hu
          simp [Try.ntmps8, Try.results8, cSl, cp0, cp1, cp2, cp3, cn0, cI, cD, hk, hw, hz, h20, hv, hf, he, flE, rP2, P2.row, p2Dec, rCpu, Cpu.row, Cpu.hrow, cpuDec, rLn, lnDec, rOd, odDec]
          exact ⟨a, ⟨i1, i2, i3, i4⟩, rfl⟩
        · simp [Try.ntmps8, Try.results8, cSl, cp0, cp1, cp2, cp3, cn0, cI, cD, hk, hw, hz, h20, hu, hf, he, flE, rP2, P2.row, p2Dec, rCpu, Cpu.row, Cpu.hrow, cpuDec, rLn, lnDec, rOd, odDec]
          exact ⟨a, ⟨i1, i2, i3, i4⟩, rfl⟩
      | ok y =>
        have hgy := hgo y hf
        by_cases hu : u = s
        · have hv : ¬ v = p := fun hv => hs ⟨hu, hv⟩
          subst hu
          simp [Try.ntmps8, Try.results8, cSl, cp0, cp1, cp2, cp3, cn0, cI, cD, hk, hw, hz, h20, hv, hf, flE, rP2, P2.row, p2Dec, rCpu, Cpu.row, Cpu.hrow, cpuDec, rLn, lnDec, rOd, odDec]
          exact ⟨y, hgy, rfl⟩
        · simp [Try.ntmps8, Try.results8, cSl, cp0, cp1, cp2, cp3, cn0, cI, cD, hk, hw, hz, h20, hu, hf, flE, rP2, P2.row, p2Dec, rCpu, Cpu.row, Cpu.hrow, cpuDec, rLn, lnDec, rOd, odDec]
          exact ⟨y, hgy, rfl⟩
    · rintro a ⟨i1, i2, i3, i4⟩
      have hlk : ∀ i : Nat, i < a.length → tlChk (srvAll a) i = 0 ∧ tlLookB (srvAll a) i s p = false := fun i hi => gone_look (o := ⟨s, p⟩) i2 (.inr rfl) i1 i hi
      have hsl := srvAll_len a
      simp [Try.ntmps8, Try.results8, cSl, cp0, cp1, cp2, cp3, cn0, cI, cD, passI, i2, rCpu, Cpu.row, Cpu.hrow, cpuDec, rLn, lnDec, rOd, odDec]
      refine loop_for a.length (fun k (_ : Unit) => ([(3, .v (.int .i64 s)), (4, .v (.int .i64 p)), (15, .fsl false 2 ((srvAll a).map Cpu.row)), (90, .v (.int .i64 a.length)), (91, .v (.int .i64 k))], [])) (fun _ _ => True) () (by omega) trivial (by simp [hsl]) ?_ ?_
      · rintro k _ hk _ hw
        obtain ⟨q1, q2⟩ := hlk k hk
        simp [Try.ntmps8, Try.results8, cSl, cp0, cp1, cp2, cp3, cn0, cI, cD, hk, hw, q1, q2, rCpu, cpuDec, rLn, lnDec, rOd, odDec]
        done
      · rintro _ _
        simp [Try.ntmps8, Try.results8, cSl, cp0, cp1, cp2, cp3, cn0, cI, cD]
        done
end Go.Proofs.Ytdhpgdfjogklaaa
namespace Go.Proofs.Ytdhpgdfjogklaaa
open Go.AI
set_option maxHeartbeats 2000000
set_option maxRecDepth 100000
set_option linter.unusedSimpArgs false
set_option linter.unusedVariables false
attribute [local simp] wpA wpX RunA RunD runF foot footP footB idsA bare apart runL step1 gsel_f gsel_t gsel_s res_same res_and1 res_and2 res_and3 res_and4 res_and5 res_and6 res_false res_true res_v res_ptr res_fptr res_osl res_xsl soft aAppendZ aCap ovlI ovlJ res_fsl res_esl res_agg res_tup res_fn res_junk res_anyb aPick hk imp_left iteV dstOk guardOk astep astepE AI.ev AI.look AI.put envOf aBox cellsOf allOne allOneA oneA Value.oneCell' Value.cells newObj' aFieldAddr aLoad obj readAt thenA blockA condA retA resA tupA view hot hotC hotR depthV cAgg cInt cBool mkAgg allV aAlloc aBuild fillA writeAt aStore isAggA aField idx aIndexAddr aIndex bnd aSlice aExtract aLen aBuiltin aCall isStatic eqAgg eqTy eqC ev_add ev_sub ev_mul ev_quo ev_rem ev_and ev_or ev_xor ev_andNot ev_shl ev_shr ev_eql ev_neq ev_lss ev_leq ev_gtr ev_geq ev_agg w64 wu32 wu8 ev_not ev_neg Cod.plain RCod.plain argM finM cold coldC coldR goInt intDec boolDec aggDec Weaker heapW lowA lowC Again slDec undef aBuildSlice setRows aAppend rowsOf aMakeSlice aClear aCopy softer_self softer_nil valsOf ev_min2 ev_max2 hotR_set hotR_append take_map_set irow_cold irow_mapM irow_mapMc irow_view irow_viewc irow_hotR irow_ren irow_renc irow_low WeakT heapT thOf ren renC AgainT NextF NextT fnDec cFn rNil selfLt natLt0 natLt1 getLastMap frame0 frame1 own0 own1 argG finG tau tauI tauO tauC bareA bareC bareH irow_tau irow_tauc irow_bare irow_flat irow_bareR ownA_nil ownT_nil ownA_c ownT_c ownA_s ownT_s takeMapLen footC plainA noId noIdC cloneF frame0F frame1F insertF replaceI replaceF cellDec rCell fpDec cFp rTwo deleteF allV_oA oneA_oA res_oA RunR RunE runFT footAt hotR_cat tmodN fxSz2 fxBy2 fxAg2 fxZe2 fxSl2 fxAr2 fxPl2 fxSz3 fxBy3 fxAg3 fxZe3 fxSl3 fxAr3 fxPl3 fxSz4 fxBy4 fxAg4 fxZe4 fxSl4 fxAr4 fxPl4 fxSz5 fxBy5 fxAg5 fxZe5 fxSl5 fxAr5 fxPl5 fxSz9 fxBy9 fxAg9 fxZe9 fxSl9 fxAr9 fxPl9 fxSz12 fxBy12 fxAg12 fxZe12 fxSl12 fxAr12 fxPl12 fxSz13 fxBy13 fxAg13 fxZe13 fxSl13 fxAr13 fxFi13x0 fxFi13x1 fxPl13 fxSz21 fxBy21 fxAg21 fxZe21 fxSl21 fxAr21 fxPl21 fxSz22 fxBy22 fxAg22 fxZe22 fxSl22 fxAr22 fxPl22 fxSz23 fxBy23 fxAg23 fxZe23 fxSl23 fxAr23 fxFi23x0 fxFi23x1 fxPl23 fxSz24 fxBy24 fxAg24 fxZe24 fxSl24 fxAr24 fxFi24x0 fxFi24x1 fxPl24 fxSz25 fxBy25 fxAg25 fxZe25 fxSl25 fxAr25 fxPl25 fxSz26 fxBy26 fxAg26 fxZe26 fxSl26 fxAr26 fxPl26 fxSz27 fxBy27 fxAg27 fxZe27 fxSl27 fxAr27 fxFi27x0 fxFi27x1 fxFi27x2 fxFi27x3 fxFi27x4 fxFi27x5 fxFi27x6 fxPl27 fxSz28 fxBy28 fxAg28 fxZe28 fxSl28 fxAr28 fxFi28x0 fxFi28x1 fxFi28x2 fxFi28x3 fxFi28x4 fxFi28x5 fxFi28x6 fxPl28 fxSz29 fxBy29 fxAg29 fxZe29 fxSl29 fxAr29 fxPl29 fxSz44 fxBy44 fxAg44 fxZe44 fxSl44 fxAr44 fxPl44 fxSz45 fxBy45 fxAg45 fxZe45 fxSl45 fxAr45 fxPl45 fxSz52 fxBy52 fxAg52 fxZe52 fxSl52 fxAr52 fxPl52 fxSz54 fxBy54 fxAg54 fxZe54 fxSl54 fxAr54 fxFi54x0 fxFi54x1 fxPl54 fxSz55 fxBy55 fxAg55 fxZe55 fxSl55 fxAr55 fxFi55x0 fxFi55x1 fxPl55 fxSz56 fxBy56 fxAg56 fxZe56 fxSl56 fxAr56 fxPl56 fxSz60 fxBy60 fxAg60 fxZe60 fxSl60 fxAr60 fxPl60 fxSz61 fxBy61 fxAg61 fxZe61 fxSl61 fxAr61 fxPl61 fxSz62 fxBy62 fxAg62 fxZe62 fxSl62 fxAr62 fxFi62x0 fxFi62x1 fxPl62 fxSz63 fxBy63 fxAg63 fxZe63 fxSl63 fxAr63 fxFi63x0 fxFi63x1 fxPl63 fxSz76 fxBy76 fxAg76 fxZe76 fxSl76 fxAr76 fxPl76 fxSz83 fxBy83 fxAg83 fxZe83 fxSl83 fxAr83 fxFi83x0 fxFi83x1 fxFi83x2 fxPl83 fxSz84 fxBy84 fxAg84 fxZe84 fxSl84 fxAr84 fxFi84x0 fxFi84x1 fxFi84x2 fxPl84 fxSz99 fxBy99 fxAg99 fxZe99 fxSl99 fxAr99 fxPl99 fxSz106 fxBy106 fxAg106 fxZe106 fxSl106 fxAr106 fxPl106 fxSz107 fxBy107 fxAg107 fxZe107 fxSl107 fxAr107 fxFi107x0 fxPl107 fxSz113 fxBy113 fxAg113 fxZe113 fxSl113 fxAr113 fxPl113 fxSz118 fxBy118 fxAg118 fxZe118 fxSl118 fxAr118 fxPl118 fxEq28 fxEq55 fxEq56 fxEq84 fxCv2x2 fxCv2x3 fxCv2x5 fxCv2x12 fxCv2x21 fxCv2x29 fxCv2x45 fxCv3x2 fxCv3x3 fxCv3x5 fxCv3x12 fxCv3x21 fxCv3x29 fxCv3x45 fxCv5x2 fxCv5x3 fxCv5x5 fxCv5x12 fxCv5x21 fxCv5x29 fxCv5x45 fxCv12x2 fxCv12x3 fxCv12x5 fxCv12x12 fxCv12x21 fxCv12x29 fxCv12x45 fxCv21x2 fxCv21x3 fxCv21x5 fxCv21x12 fxCv21x21 fxCv21x29 fxCv21x45 fxCv29x2 fxCv29x3 fxCv29x5 fxCv29x12 fxCv29x21 fxCv29x29 fxCv29x45 fxCv45x2 fxCv45x3 fxCv45x5 fxCv45x12 fxCv45x21 fxCv45x29 fxCv45x45 fxEb4 fxNb4 fxLt9 fxLn22 fxNe22 fxNn22 fxOe22 fxOn22 fxXe22 fxXn22 fxLn44 fxNe44 fxNn44 fxOe44 fxOn44 fxXe44 fxXn44 fxLn52 fxNe52 fxNn52 fxOe52 fxOn52 fxXe52 fxXn52 fxLn60 fxNe60 fxNn60 fxOe60 fxOn60 fxXe60 fxXn60 fxLn61 fxNe61 fxNn61 fxOe61 fxOn61 fxXe61 fxXn61 fxLn76 fxNe76 fxNn76 fxOe76 fxOn76 fxXe76 fxXn76 fxFn3 fxFm3 fxFb3 fxFi3 fxFj3 fxFn4 fxFm4 fxFb4 fxFi4 fxFj4 fxFn5 fxFm5 fxFb5 fxFi5 fxFj5 fxFn6 fxFm6 fxFb6 fxFi6 fxFj6 fxFn7 fxFm7 fxFb7 fxFi7 fxFj7 fxFn8 fxFm8 fxFb8 fxFi8 fxFj8 fxFn9 fxFm9 fxFb9 fxFi9 fxFj9 fxFn10 fxFm10 fxFb10 fxFi10 fxFj10 fxFn11 fxFm11 fxFb11 fxFi11 fxFj11 fxFn12 fxFm12 fxFb12 fxFi12 fxFj12 fxFn13 fxFm13 fxFb13 fxFi13 fxFj13 fxFn14 fxFm14 fxFb14 fxFi14 fxFj14 fxFn15 fxFm15 fxFb15 fxFi15 fxFj15 fxFn16 fxFm16 fxFb16 fxFi16 fxFj16 fxFn17 fxFm17 fxFb17 fxFi17 fxFj17 fxFn18 fxFm18 fxFb18 fxFi18 fxFj18 fxFn19 fxFm19 fxFb19 fxFi19 fxFj19 fxFn20 fxFm20 fxFb20 fxFi20 fxFj20 fxFn21 fxFm21 fxFb21 fxFi21 fxFj21 fxFn22 fxFm22 fxFb22 fxFi22 fxFj22 fxFn23 fxFm23 fxFb23 fxFi23 fxFj23 fxFn24 fxFm24 fxFb24 fxFi24 fxFj24 fxFn25 fxFm25 fxFb25 fxFi25 fxFj25 fxFn26 fxFm26 fxFb26 fxFi26 fxFj26 fxFn27 fxFm27 fxFb27 fxFi27 fxFj27 fxFn28 fxFm28 fxFb28 fxFi28 fxFj28 fxFn29 fxFm29 fxFb29 fxFi29 fxFj29 fxFn30 fxFm30 fxFb30 fxFi30 fxFj30 fxFn31 fxFm31 fxFb31 fxFi31 fxFj31 fxFn32 fxFm32 fxFb32 fxFi32 fxFj32 fxFn33 fxFm33 fxFb33 fxFi33 fxFj33 fxFn34 fxFm34 fxFb34 fxFi34 fxFj34 fxFn35 fxFm35 fxFb35 fxFi35 fxFj35 fxFn36 fxFm36 fxFb36 fxFi36 fxFj36 fxFn37 fxFm37 fxFb37 fxFi37 fxFj37 fxFn38 fxFm38 fxFb38 fxFi38 fxFj38 fxFn39 fxFm39 fxFb39 fxFi39 fxFj39 fxFn40 fxFm40 fxFb40 fxFi40 fxFj40 fxFn41 fxFm41 fxFb41 fxFi41 fxFj41 fxFn42 fxFm42 fxFb42 fxFi42 fxFj42 fxFn43 fxFm43 fxFb43 fxFi43 fxFj43 fxFn44 fxFm44 fxFb44 fxFi44 fxFj44 fxFn45 fxFm45 fxFb45 fxFi45 fxFj45 fxFn46 fxFm46 fxFb46 fxFi46 fxFj46 fxFn47 fxFm47 fxFb47 fxFi47 fxFj47 fxFn48 fxFm48 fxFb48 fxFi48 fxFj48 fxFn49 fxFm49 fxFb49 fxFi49 fxFj49 fxFn50 fxFm50 fxFb50 fxFi50 fxFj50 fxFn51 fxFm51 fxFb51 fxFi51 fxFj51 fxFn52 fxFm52 fxFb52 fxFi52 fxFj52 fxFn53 fxFm53 fxFb53 fxFi53 fxFj53 fxFn54 fxFm54 fxFb54 fxFi54 fxFj54 fxFn55 fxFm55 fxFb55 fxFi55 fxFj55 fxFn56 fxFm56 fxFb56 fxFi56 fxFj56 fxFn57 fxFm57 fxFb57 fxFi57 fxFj57 fxFn58 fxFm58 fxFb58 fxFi58 fxFj58 fxFn59 fxFm59 fxFb59 fxFi59 fxFj59 fxFn60 fxFm60 fxFb60 fxFi60 fxFj60
attribute [local simp] Ln.eta Ln.cold Ln.mapM Ln.mapMc Ln.view Ln.viewc Ln.hotR Ln.ren Ln.renc Ln.low Ln.tau Ln.tauc Ln.bare Ln.flat Ln.flat1 Ln.mapMt Ln.mapMd Ln.coldt Ln.coldd Ln.hotRt Ln.hotRd
attribute [local simp] Od.eta Od.cold Od.mapM Od.mapMc Od.view Od.viewc Od.hotR Od.ren Od.renc Od.low Od.tau Od.tauc Od.bare Od.flat Od.flat1 Od.mapMt Od.mapMd Od.coldt Od.coldd Od.hotRt Od.hotRd
attribute [local simp] Cpu.eta Cpu.dec_row Cpu.dec_hrow Cpu.cold Cpu.hcold Cpu.mapM Cpu.mapMc Cpu.hmapM Cpu.hmapMc Cpu.view Cpu.viewc Cpu.hview Cpu.hviewc Cpu.hotR Cpu.ren Cpu.renc Cpu.low Cpu.hlow
attribute [local simp] P2.eta P2.cold P2.mapM P2.mapMc P2.view P2.viewc P2.hotR P2.ren P2.renc P2.low P2.tau P2.tauc P2.bare P2.flat P2.flat1 P2.mapMt P2.mapMd P2.coldt P2.coldd P2.hotRt P2.hotRd
section
variable {P : Program} {C : Orc} {nt n0 : Nat} {ρ : Env} {H : Heap}
/-- a loop from 0 to n, as long as any list is -/
theorem loop_forM {K : Nat} {c : Code} {Q : Post} {α : Type} (n : Nat) (st : Nat → α → Env × Heap) (inv : Nat → α → Prop) (a0 : α) (hn : n ≤ 9223372036854775807) (hi : inv 0 a0) (h0 : Weaker n0 (st 0 a0) (ρ, H))
    (step : ∀ k a, k < n → inv k a → IntKind.i64.wrap ((k : Int) + 1) = (k : Int) + 1 → wpX P C nt (LoopK P C nt n0 K) c (thenA (NextF n0 st inv (k + 1)) Q) (st k a).1 (st k a).2)
    (last : ∀ a, inv n a → wpX P C nt (LoopK P C nt n0 K) c (thenA (fun _ _ => False) Q) (st n a).1 (st n a).2) : LoopK P C nt n0 (K + 1) c Q ρ H := by
  refine loop_inv (σ := {p : Nat × α // p.1 ≤ n ∧ inv p.1 p.2}) (fun p => st p.val.1 p.val.2) (fun p => n - p.val.1) ⟨(0, a0), Nat.zero_le _, hi⟩ h0 ?_
  rintro ⟨⟨k, a⟩, hk, hka⟩
  simp only at hk hka ⊢
  rcases Nat.lt_or_ge k n with hlt | hge
  · refine wpX_mono (LoopK_mono K) c _ _ _ _ (thenA_mono ?_ fun _ _ _ q => q) (step k a hlt hka (w64 (by omega) (by omega)))
    rintro ρ H ⟨a', h1, h2⟩
    exact ⟨⟨(k + 1, a'), hlt, h1⟩, by simp only; omega, h2⟩
  · have : k = n := by omega
    subst this
    exact wpX_mono (LoopK_mono K) c _ _ _ _ (thenA_mono (fun _ _ q => q.elim) fun _ _ _ q => q) (last a hka)
end
theorem lateM_pure : PureOk Try.prog 8 (argM (cSl rCpu) fun l => argM (cInt .i64) fun b => argM (cInt .i64) fun c => argM (cInt .i64) fun s => argM (cInt .i64) fun p => argM (cInt .u32) fun w => argM (cSl rP2) fun fs => finM (if fs.length ≤ 9223372036854775807 then some (.v (.bool true)) else none)) := by
  refine pure7 Try.func8 rfl ?_
  rintro l b c s p w fs r hr
  by_cases hc : fs.length ≤ 9223372036854775807
  case neg => rw [if_neg hc] at hr; cases hr
  rw [if_pos hc] at hr
  simp only [Option.some.injEq] at hr
  subst hr
  refine body_gen (((((noOrc_ok.withP tlShoot_pure).withP tlbs_pure).withP tlFill_pure).withP tlLook_pure).withI serve_inl) fxMix (by kernel_rfl) (by simp [Try.ntmps8]) ?_
  intro C cP cI cN cD cF cA
  have cp0 := orcP tlShoot_pure (C := C) (by rw [cP]; rfl)
  have cp1 := orcP tlbs_pure (C := C) (by rw [cP]; rfl)
  have cp2 := orcP tlFill_pure (C := C) (by rw [cP]; rfl)
  have cp3 := orcP tlLook_pure (C := C) (by rw [cP]; rfl)
  have cn0 := orcI serve_inl (C := C) (by rw [cN]; rfl)
  replace cI := fun g => congrFun cI g
  simp only [Orc.withP, Orc.withI, Orc.withF, Orc.withD, Orc.withA, noOrc] at cI
  replace cD : C.dyn = fun _ => [] := cD
  clear cP cN cF cA
  cases h1 : tlShoot l b ⟨s, p⟩ with
  | error e =>
    have he := shoot_err h1
    simp [Try.ntmps8, Try.results8, cSl, cp0, cp1, cp2, cp3, cn0, cI, cD, rCpu, cpuDec, Cpu.row, Cpu.hrow, rLn, lnDec, rOd, odDec, Od.row, h1, he, flE]
    done
  | ok x =>
    by_cases hp : p < 0
    · simp [Try.ntmps8, Try.results8, cSl, cp0, cp1, cp2, cp3, cn0, cI, cD, rCpu, cpuDec, Cpu.row, Cpu.hrow, rLn, lnDec, rOd, odDec, Od.row, h1, hp, flE]
      done
    obtain ⟨g0, g1, hcx, hxl, _⟩ := shoot_ok h1
    have hg0 : Gone ⟨s, p⟩ p x := shoot_gone h1 (.inr rfl)
    simp [Try.ntmps8, Try.results8, cSl, cp0, cp1, cp2, cp3, cn0, cI, cD, rCpu, cpuDec, Cpu.row, Cpu.hrow, rLn, lnDec, rOd, odDec, Od.row, h1, hp, flE]
    refine loop_forM fs.length (fun k (a : List Cpu) => ([(2, .v (.int .i64 c)), (3, .v (.int .i64 s)), (4, .v (.int .i64 p)), (5, .v (.int .u32 w)), (15, .fsl true 2 (a.map Cpu.hrow)), (46, .fsl false 2 (fs.map P2.row)), (47, .v (.int .i64 fs.length)), (48, .v (.int .i64 k))], [])) (fun k a => Gone ⟨s, p⟩ p a ∧ tlCheck a = 0 ∧ 1 ≤ a.length ∧ a.length ≤ 4) x hc ⟨hg0, hcx, tlCheck_len hcx⟩ (by simp [rP2]) ?_ ?_
    · rintro k a hk ⟨i1, i2, i3, i4⟩ hw
      generalize hz : fs[k] = z at *
      obtain ⟨u, v⟩ := z
      by_cases h20 : (20 : Int) ≤ k
      · simp [Try.ntmps8, Try.results8, cSl, cp0, cp1, cp2, cp3, cn0, cI, cD, hk, hw, hz, h20, rP2, P2.row, p2Dec]
        exact ⟨a, ⟨i1, i2, i3, i4⟩, rfl⟩
      by_cases hs : u = s ∧ v = p
      · obtain ⟨hu, hv⟩ := hs
        simp [Try.ntmps8, Try.results8, cSl, cp0, cp1, cp2, cp3, cn0, cI, cD, hk, hw, hz, h20, hu, hv, rP2, P2.row, p2Dec]
        exact ⟨a, ⟨i1, i2, i3, i4⟩, rfl⟩
      have hgo : ∀ y, tlFill a c u v w = .ok y → Gone ⟨s, p⟩ p y ∧ tlCheck y = 0 ∧ 1 ≤ y.length ∧ y.length ≤ 4 := fun y hy => by
        obtain ⟨_, _, k', hk', rfl, rfl, h9⟩ := fill_ok hy
        exact ⟨gone_fill (o := ⟨s, p⟩) i1 hy hs, h9, tlCheck_len h9⟩
      cases hf : tlFill a c u v w with
      | error e =>
        have he := fill_err hf
        by_cases hu : u = s
        · have hv : ¬ v = p := fun hv => hs ⟨hu, hv⟩
          subst hu
          simp [Try.ntmps8, Try.results8, cSl, cp0, cp1, cp2, cp3, cn0, cI, cD, hk, hw, hz, h20, hv, hf, he, flE, rP2, P2.row, p2Dec, rCpu, Cpu.row, Cpu.hrow, cpuDec, rLn, lnDec, rOd, odDec]
          exact ⟨a, ⟨i1, i2, i3, i4⟩, rfl⟩
        · simp [Try.ntmps8, Try.results8, cSl, cp0, cp1, cp2, cp3, cn0, cI, cD, hk, hw, hz, h20, hu, hf, he, flE, rP2, P2.row, p2Dec, rCpu, Cpu.row, Cpu.hrow, cpuDec, rLn, lnDec, rOd, odDec]
          exact ⟨a, ⟨i1, i2, i3, i4⟩, rfl⟩
      | ok y =>
        have hgy := hgo y hf
        by_cases hu : u = s
        · have hv : ¬ v = p := fun hv => hs ⟨hu, hv⟩
          subst hu
          simp [Try.ntmps8, Try.results8, cSl, cp0, cp1, cp2, cp3, cn0, cI, cD, hk, hw, hz, h20, hv, hf, flE, rP2, P2.row, p2Dec, rCpu, Cpu.row, Cpu.hrow, cpuDec, rLn, lnDec, rOd, odDec]
          exact ⟨y, hgy, rfl⟩
        · simp [Try.ntmps8, Try.results8, cSl, cp0, cp1, cp2, cp3, cn0, cI, cD, hk, hw, hz, h20, hu, hf, flE, rP2, P2.row, p2Dec, rCpu, Cpu.row, Cpu.hrow, cpuDec, rLn, lnDec, rOd, odDec]
          exact ⟨y, hgy, rfl⟩
    · rintro a ⟨i1, i2, i3, i4⟩
      have hlk : ∀ i : Nat, i < a.length → tlChk (srvAll a) i = 0 ∧ tlLookB (srvAll a) i s p = false := fun i hi => gone_look (o := ⟨s, p⟩) i2 (.inr rfl) i1 i hi
      have hsl := srvAll_len a
      simp [Try.ntmps8, Try.results8, cSl, cp0, cp1, cp2, cp3, cn0, cI, cD, passI, i2, rCpu, Cpu.row, Cpu.hrow, cpuDec, rLn, lnDec, rOd, odDec]
      refine loop_for a.length (fun k (_ : Unit) => ([(3, .v (.int .i64 s)), (4, .v (.int .i64 p)), (15, .fsl false 2 ((srvAll a).map Cpu.row)), (90, .v (.int .i64 a.length)), (91, .v (.int .i64 k))], [])) (fun _ _ => True) () (by omega) trivial (by simp [hsl]) ?_ ?_
      · rintro k _ hk _ hw
        obtain ⟨q1, q2⟩ := hlk k hk
        simp [Try.ntmps8, Try.results8, cSl, cp0, cp1, cp2, cp3, cn0, cI, cD, hk, hw, q1, q2, rCpu, cpuDec, rLn, lnDec, rOd, odDec]
        done
      · rintro _ _
        simp [Try.ntmps8, Try.results8, cSl, cp0, cp1, cp2, cp3, cn0, cI, cD]
        done
end Go.Proofs.Ytdhpgdfjogklaaa
