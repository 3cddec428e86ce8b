/- Package tlb: lines are forgotten. -/
import Derived.Test.YtdhpgdfjogklaaaTlD
namespace Go.Proofs.Ytdhpgdfjogklaaa
open Go.AI
set_option maxHeartbeats 2000000
set_option maxRecDepth 100000
set_option linter.unusedSimpArgs false
set_option linter.unusedVariables false
attribute [local simp] wpA wpX RunA RunD runF foot footP footB idsA bare apart runL step1 gsel_f gsel_t gsel_s res_same res_and1 res_and2 res_and3 res_and4 res_and5 res_and6 res_false res_true res_v res_ptr res_fptr res_osl res_xsl soft aAppendZ aCap ovlI ovlJ res_fsl res_esl res_agg res_tup res_fn res_junk res_anyb aPick hk imp_left iteV dstOk guardOk astep astepE AI.ev AI.look AI.put envOf aBox cellsOf allOne allOneA oneA Value.oneCell' Value.cells newObj' aFieldAddr aLoad obj readAt thenA blockA condA retA resA tupA view hot hotC hotR depthV cAgg cInt cBool mkAgg allV aAlloc aBuild fillA writeAt aStore isAggA aField idx aIndexAddr aIndex bnd aSlice aExtract aLen aBuiltin aCall isStatic eqAgg eqTy eqC ev_add ev_sub ev_mul ev_quo ev_rem ev_and ev_or ev_xor ev_andNot ev_shl ev_shr ev_eql ev_neq ev_lss ev_leq ev_gtr ev_geq ev_agg w64 wu32 wu8 ev_not ev_neg Cod.plain RCod.plain argM finM cold coldC coldR goInt intDec boolDec aggDec Weaker heapW lowA lowC Again slDec undef aBuildSlice setRows aAppend rowsOf aMakeSlice aClear aCopy softer_self softer_nil valsOf ev_min2 ev_max2 hotR_set hotR_append take_map_set irow_cold irow_mapM irow_mapMc irow_view irow_viewc irow_hotR irow_ren irow_renc irow_low WeakT heapT thOf ren renC AgainT NextF NextT fnDec cFn rNil selfLt natLt0 natLt1 getLastMap frame0 frame1 own0 own1 argG finG tau tauI tauO tauC bareA bareC bareH irow_tau irow_tauc irow_bare irow_flat irow_bareR ownA_nil ownT_nil ownA_c ownT_c ownA_s ownT_s takeMapLen footC plainA noId noIdC cloneF frame0F frame1F insertF replaceI replaceF cellDec rCell fpDec cFp rTwo deleteF allV_oA oneA_oA res_oA RunR RunE runFT footAt hotR_cat tmodN fxSz2 fxBy2 fxAg2 fxZe2 fxSl2 fxAr2 fxPl2 fxSz3 fxBy3 fxAg3 fxZe3 fxSl3 fxAr3 fxPl3 fxSz4 fxBy4 fxAg4 fxZe4 fxSl4 fxAr4 fxPl4 fxSz5 fxBy5 fxAg5 fxZe5 fxSl5 fxAr5 fxPl5 fxSz9 fxBy9 fxAg9 fxZe9 fxSl9 fxAr9 fxPl9 fxSz12 fxBy12 fxAg12 fxZe12 fxSl12 fxAr12 fxPl12 fxSz13 fxBy13 fxAg13 fxZe13 fxSl13 fxAr13 fxFi13x0 fxFi13x1 fxPl13 fxSz21 fxBy21 fxAg21 fxZe21 fxSl21 fxAr21 fxPl21 fxSz22 fxBy22 fxAg22 fxZe22 fxSl22 fxAr22 fxPl22 fxSz23 fxBy23 fxAg23 fxZe23 fxSl23 fxAr23 fxFi23x0 fxFi23x1 fxPl23 fxSz24 fxBy24 fxAg24 fxZe24 fxSl24 fxAr24 fxFi24x0 fxFi24x1 fxPl24 fxSz25 fxBy25 fxAg25 fxZe25 fxSl25 fxAr25 fxPl25 fxSz26 fxBy26 fxAg26 fxZe26 fxSl26 fxAr26 fxPl26 fxSz27 fxBy27 fxAg27 fxZe27 fxSl27 fxAr27 fxFi27x0 fxFi27x1 fxFi27x2 fxFi27x3 fxFi27x4 fxFi27x5 fxFi27x6 fxPl27 fxSz28 fxBy28 fxAg28 fxZe28 fxSl28 fxAr28 fxFi28x0 fxFi28x1 fxFi28x2 fxFi28x3 fxFi28x4 fxFi28x5 fxFi28x6 fxPl28 fxSz29 fxBy29 fxAg29 fxZe29 fxSl29 fxAr29 fxPl29 fxSz44 fxBy44 fxAg44 fxZe44 fxSl44 fxAr44 fxPl44 fxSz45 fxBy45 fxAg45 fxZe45 fxSl45 fxAr45 fxPl45 fxSz52 fxBy52 fxAg52 fxZe52 fxSl52 fxAr52 fxPl52 fxSz54 fxBy54 fxAg54 fxZe54 fxSl54 fxAr54 fxFi54x0 fxFi54x1 fxPl54 fxSz55 fxBy55 fxAg55 fxZe55 fxSl55 fxAr55 fxFi55x0 fxFi55x1 fxPl55 fxSz56 fxBy56 fxAg56 fxZe56 fxSl56 fxAr56 fxPl56 fxSz60 fxBy60 fxAg60 fxZe60 fxSl60 fxAr60 fxPl60 fxSz61 fxBy61 fxAg61 fxZe61 fxSl61 fxAr61 fxPl61 fxSz62 fxBy62 fxAg62 fxZe62 fxSl62 fxAr62 fxFi62x0 fxFi62x1 fxPl62 fxSz63 fxBy63 fxAg63 fxZe63 fxSl63 fxAr63 fxFi63x0 fxFi63x1 fxPl63 fxSz76 fxBy76 fxAg76 fxZe76 fxSl76 fxAr76 fxPl76 fxSz83 fxBy83 fxAg83 fxZe83 fxSl83 fxAr83 fxFi83x0 fxFi83x1 fxFi83x2 fxPl83 fxSz84 fxBy84 fxAg84 fxZe84 fxSl84 fxAr84 fxFi84x0 fxFi84x1 fxFi84x2 fxPl84 fxSz99 fxBy99 fxAg99 fxZe99 fxSl99 fxAr99 fxPl99 fxSz106 fxBy106 fxAg106 fxZe106 fxSl106 fxAr106 fxPl106 fxSz107 fxBy107 fxAg107 fxZe107 fxSl107 fxAr107 fxFi107x0 fxPl107 fxSz113 fxBy113 fxAg113 fxZe113 fxSl113 fxAr113 fxPl113 fxSz118 fxBy118 fxAg118 fxZe118 fxSl118 fxAr118 fxPl118 fxEq28 fxEq55 fxEq56 fxEq84 fxCv2x2 fxCv2x3 fxCv2x5 fxCv2x12 fxCv2x21 fxCv2x29 fxCv2x45 fxCv3x2 fxCv3x3 fxCv3x5 fxCv3x12 fxCv3x21 fxCv3x29 fxCv3x45 fxCv5x2 fxCv5x3 fxCv5x5 fxCv5x12 fxCv5x21 fxCv5x29 fxCv5x45 fxCv12x2 fxCv12x3 fxCv12x5 fxCv12x12 fxCv12x21 fxCv12x29 fxCv12x45 fxCv21x2 fxCv21x3 fxCv21x5 fxCv21x12 fxCv21x21 fxCv21x29 fxCv21x45 fxCv29x2 fxCv29x3 fxCv29x5 fxCv29x12 fxCv29x21 fxCv29x29 fxCv29x45 fxCv45x2 fxCv45x3 fxCv45x5 fxCv45x12 fxCv45x21 fxCv45x29 fxCv45x45 fxEb4 fxNb4 fxLt9 fxLn22 fxNe22 fxNn22 fxOe22 fxOn22 fxXe22 fxXn22 fxLn44 fxNe44 fxNn44 fxOe44 fxOn44 fxXe44 fxXn44 fxLn52 fxNe52 fxNn52 fxOe52 fxOn52 fxXe52 fxXn52 fxLn60 fxNe60 fxNn60 fxOe60 fxOn60 fxXe60 fxXn60 fxLn61 fxNe61 fxNn61 fxOe61 fxOn61 fxXe61 fxXn61 fxLn76 fxNe76 fxNn76 fxOe76 fxOn76 fxXe76 fxXn76 fxFn3 fxFm3 fxFb3 fxFi3 fxFj3 fxFn4 fxFm4 fxFb4 fxFi4 fxFj4 fxFn5 fxFm5 fxFb5 fxFi5 fxFj5 fxFn6 fxFm6 fxFb6 fxFi6 fxFj6 fxFn7 fxFm7 fxFb7 fxFi7 fxFj7 fxFn8 fxFm8 fxFb8 fxFi8 fxFj8 fxFn9 fxFm9 fxFb9 fxFi9 fxFj9 fxFn10 fxFm10 fxFb10 fxFi10 fxFj10 fxFn11 fxFm11 fxFb11 fxFi11 fxFj11 fxFn12 fxFm12 fxFb12 fxFi12 fxFj12 fxFn13 fxFm13 fxFb13 fxFi13 fxFj13 fxFn14 fxFm14 fxFb14 fxFi14 fxFj14 fxFn15 fxFm15 fxFb15 fxFi15 fxFj15 fxFn16 fxFm16 fxFb16 fxFi16 fxFj16 fxFn17 fxFm17 fxFb17 fxFi17 fxFj17 fxFn18 fxFm18 fxFb18 fxFi18 fxFj18 fxFn19 fxFm19 fxFb19 fxFi19 fxFj19 fxFn20 fxFm20 fxFb20 fxFi20 fxFj20 fxFn21 fxFm21 fxFb21 fxFi21 fxFj21 fxFn22 fxFm22 fxFb22 fxFi22 fxFj22 fxFn23 fxFm23 fxFb23 fxFi23 fxFj23 fxFn24 fxFm24 fxFb24 fxFi24 fxFj24 fxFn25 fxFm25 fxFb25 fxFi25 fxFj25 fxFn26 fxFm26 fxFb26 fxFi26 fxFj26 fxFn27 fxFm27 fxFb27 fxFi27 fxFj27 fxFn28 fxFm28 fxFb28 fxFi28 fxFj28 fxFn29 fxFm29 fxFb29 fxFi29 fxFj29 fxFn30 fxFm30 fxFb30 fxFi30 fxFj30 fxFn31 fxFm31 fxFb31 fxFi31 fxFj31 fxFn32 fxFm32 fxFb32 fxFi32 fxFj32 fxFn33 fxFm33 fxFb33 fxFi33 fxFj33 fxFn34 fxFm34 fxFb34 fxFi34 fxFj34 fxFn35 fxFm35 fxFb35 fxFi35 fxFj35 fxFn36 fxFm36 fxFb36 fxFi36 fxFj36 fxFn37 fxFm37 fxFb37 fxFi37 fxFj37 fxFn38 fxFm38 fxFb38 fxFi38 fxFj38 fxFn39 fxFm39 fxFb39 fxFi39 fxFj39 fxFn40 fxFm40 fxFb40 fxFi40 fxFj40 fxFn41 fxFm41 fxFb41 fxFi41 fxFj41 fxFn42 fxFm42 fxFb42 fxFi42 fxFj42 fxFn43 fxFm43 fxFb43 fxFi43 fxFj43 fxFn44 fxFm44 fxFb44 fxFi44 fxFj44 fxFn45 fxFm45 fxFb45 fxFi45 fxFj45 fxFn46 fxFm46 fxFb46 fxFi46 fxFj46 fxFn47 fxFm47 fxFb47 fxFi47 fxFj47 fxFn48 fxFm48 fxFb48 fxFi48 fxFj48 fxFn49 fxFm49 fxFb49 fxFi49 fxFj49 fxFn50 fxFm50 fxFb50 fxFi50 fxFj50 fxFn51 fxFm51 fxFb51 fxFi51 fxFj51 fxFn52 fxFm52 fxFb52 fxFi52 fxFj52 fxFn53 fxFm53 fxFb53 fxFi53 fxFj53 fxFn54 fxFm54 fxFb54 fxFi54 fxFj54 fxFn55 fxFm55 fxFb55 fxFi55 fxFj55 fxFn56 fxFm56 fxFb56 fxFi56 fxFj56 fxFn57 fxFm57 fxFb57 fxFi57 fxFj57 fxFn58 fxFm58 fxFb58 fxFi58 fxFj58 fxFn59 fxFm59 fxFb59 fxFi59 fxFj59 fxFn60 fxFm60 fxFb60 fxFi60 fxFj60
attribute [local simp] Ln.eta Ln.cold Ln.mapM Ln.mapMc Ln.view Ln.viewc Ln.hotR Ln.ren Ln.renc Ln.low Ln.tau Ln.tauc Ln.bare Ln.flat Ln.flat1 Ln.mapMt Ln.mapMd Ln.coldt Ln.coldd Ln.hotRt Ln.hotRd
attribute [local simp] Od.eta Od.cold Od.mapM Od.mapMc Od.view Od.viewc Od.hotR Od.ren Od.renc Od.low Od.tau Od.tauc Od.bare Od.flat Od.flat1 Od.mapMt Od.mapMd Od.coldt Od.coldd Od.hotRt Od.hotRd
attribute [local simp] Cpu.eta Cpu.dec_row Cpu.dec_hrow Cpu.cold Cpu.hcold Cpu.mapM Cpu.mapMc Cpu.hmapM Cpu.hmapMc Cpu.view Cpu.viewc Cpu.hview Cpu.hviewc Cpu.hotR Cpu.ren Cpu.renc Cpu.low Cpu.hlow
theorem fillI_pure : PureOk Try.prog 55 (argM (cSl rLn) fun l => argM (cFn 42 rCapL) fun cp => finM (if l.length ≤ 4294967296 then some (.v (.int .i64 (idxP ((fun x => x.at cp.1 cp.2)) l))) else none)) := by
  refine pure2 Try.func55 rfl ?_
  rintro l cp r hr
  by_cases hc : l.length ≤ 4294967296
  case neg => rw [if_neg hc] at hr; cases hr
  rw [if_pos hc] at hr
  simp only [Option.some.injEq] at hr
  subst hr
  refine body_gen (noOrc_ok.withP fill1_pure) fxMix (by kernel_rfl) (by simp [Try.ntmps55]) ?_
  intro C cP cI cN cD cF cA
  have cp0 := orcP fill1_pure (C := C) (by rw [cP]; rfl)
  replace cI : C.inl = fun _ => false := cI
  replace cD : C.dyn = fun _ => [] := cD
  clear cP cN cF cA
  simp [Try.ntmps55, Try.results55, cSl, cp0, cI, cD, rLn, Ln.row, lnDec, rCapL, rI, irow, irowDec]
  refine loop_for l.length (fun k (_ : Unit) => ([(0, .fsl false 3 (l.map Ln.row)), (1, .fn 42 [.fptr (irow .i64 cp.1) 0, .fptr (irow .i64 cp.2) 0]), (7, .v (.int .i64 l.length)), (8, .v (.int .i64 k))], [])) (fun k _ => ((l.drop k).findIdx? ((fun x => x.at cp.1 cp.2))).map (· + k) = l.findIdx? ((fun x => x.at cp.1 cp.2))) () hc (by simp) (by simp [rLn, Ln.row, lnDec, rCapL, rI, irow, irowDec]) ?_ ?_
  · intro k _ hk hall hw
    by_cases q : ((fun x => x.at cp.1 cp.2)) l[k] = true
    · rw [find_drop hk, if_pos q] at hall
      try simp at q
      simp [Try.ntmps55, Try.results55, cSl, cp0, cI, cD, hk, hw, rLn, Ln.row, lnDec, rCapL, rI, irow, irowDec, q, idxP, ← hall]
    · rw [find_drop hk, if_neg q] at hall
      try simp at q
      simp [Try.ntmps55, Try.results55, cSl, cp0, cI, cD, hk, hw, rLn, Ln.row, lnDec, rCapL, rI, irow, irowDec, q]
      simpa using hall
  · intro _ hall
    simp at hall
    simp [Try.ntmps55, Try.results55, cSl, cp0, cI, cD, idxP, ← hall]
theorem fillDelNm : (Try.f42.name = "runtime.NumGoroutine") = False := eq_false (beq_eq_false_iff_ne.1 fxFm42)
theorem fillDel : InlOk Try.prog 41 (own1 rLn (argG (cFn 42 rCapL) fun cp => finG (if True then some ((.esl, [])) else none)) (fun l => argG (cFn 42 rCapL) fun cp => finG (if l.length ≤ 1048576 then some ((.osl 0 3 0 (l.filter (fun x => !((fun x => x.at cp.1 cp.2) x))).length l.length, [some (3, (l.filter (fun x => !((fun x => x.at cp.1 cp.2) x))).map Ln.row ++ List.replicate (l.length - (l.filter (fun x => !((fun x => x.at cp.1 cp.2) x))).length) [.v (.int .i64 0), .v (.int .i64 0), .v (.int .u32 0)])])) else none))) := by
  refine own1_1 Ln.exact Try.func41 rfl ?_ ?_
  · rintro cp r H' hr
    by_cases hc : True
    case neg => rw [if_neg hc] at hr; cases hr
    rw [if_pos hc] at hr
    simp only [Option.some.injEq, Prod.mk.injEq] at hr
    obtain ⟨rfl, rfl⟩ := hr
    refine bodyI_of ((noOrc_ok.withP fill1_pure).withP fillI_pure) fxMix (by kernel_rfl) (by simp [Try.ntmps41]) ?_
    intro C cP cI cN cD cF cA
    have cp0 := orcP fill1_pure (C := C) (by rw [cP]; rfl)
    have cp1 := orcP fillI_pure (C := C) (by rw [cP]; rfl)
    replace cI : C.inl = fun _ => false := cI
    replace cD : C.dyn = fun _ => [] := cD
    clear cP cN cF cA
    simp [Try.ntmps41, Try.results41, cSl, cp0, cp1, cI, cD, idxP, rLn, Ln.row, lnDec, rCapL, rI, irow, irowDec]
  · rintro l cp r H' hne hr
    by_cases hc : l.length ≤ 1048576
    case neg => rw [if_neg hc] at hr; cases hr
    rw [if_pos hc] at hr
    simp only [Option.some.injEq, Prod.mk.injEq] at hr
    obtain ⟨rfl, rfl⟩ := hr
    refine bodyI_of ((noOrc_ok.withP fill1_pure).withP fillI_pure) fxMix (by kernel_rfl) (by simp [Try.ntmps41]) ?_
    intro C cP cI cN cD cF cA
    have cp0 := orcP fill1_pure (C := C) (by rw [cP]; rfl)
    have cp1 := orcP fillI_pure (C := C) (by rw [cP]; rfl)
    replace cI : C.inl = fun _ => false := cI
    replace cD : C.dyn = fun _ => [] := cD
    clear cP cN cF cA
    by_cases h1 : idxP ((fun x => x.at cp.1 cp.2)) l < 0
    · have hall := idxP_none h1
      have hf : l.filter (fun x => !((fun x => x.at cp.1 cp.2) x)) = l := by
        rw [List.filter_eq_self]
        intro x hx
        simp [hall x hx]
      have hi : idxP ((fun x => x.at cp.1 cp.2)) l = -1 := by
        have hh : ∀ z : Int, z < 0 → -1 ≤ z → z = -1 := by omega
        refine hh _ h1 ?_
        unfold idxP; split <;> omega
      have hl2 : l.length ≤ 4294967296 := by omega
      rw [hf]
      simp [Try.ntmps41, Try.results41, cSl, cp0, cp1, cI, cD, hi, hl2, rLn, Ln.row, lnDec, rCapL, rI, irow, irowDec]
      exact ⟨[], by simp⟩
    · obtain ⟨i0, hi, hi0, hp0, hb0⟩ := idxP_some h1
      have hl2 : l.length ≤ 4294967296 := by omega
      have hi1 : ¬ ((i0 : Int) = -1) := by omega
      have hw0 : IntKind.i64.wrap ((i0 : Int) + 1) = ((i0 + 1 : Nat) : Int) := by rw [w64 (by omega) (by omega)]; simp
      have hne1 : ¬ l = [] := hne
      have hpos : 0 < l.length := List.length_pos_iff.2 hne
      have hstart : (l.take (i0 + 1)).filter (fun x => !((fun x => x.at cp.1 cp.2) x)) = l.take i0 := by
        rw [List.take_succ_eq_append_getElem hi0, List.filter_append]
        have e1 : (l.take i0).filter (fun x => !((fun x => x.at cp.1 cp.2) x)) = l.take i0 := by
          rw [List.filter_eq_self]
          intro x hx
          obtain ⟨j, hj, rfl⟩ := List.mem_iff_getElem.1 hx
          simp at hj
          have := hb0 j (by omega)
          simp [this]
        rw [e1]
        simp [hp0]
      simp [Try.ntmps41, Try.results41, cSl, cp0, cp1, cI, cD, hi, hi1, hl2, hw0, rLn, Ln.row, lnDec, rCapL, rI, irow, irowDec]
      refine loop_inv (σ := {j : Nat // i0 < j ∧ j ≤ l.length}) (fun q => ([(0, .osl 0 3 0 l.length l.length), (1, .fn 42 [.fptr (irow .i64 cp.1) 0, .fptr (irow .i64 cp.2) 0]), (5, .v (.int .i64 ((l.take q.val).filter (fun x => !((fun x => x.at cp.1 cp.2) x))).length)), (6, .v (.int .i64 q.val))], [some (3, ((l.take q.val).filter (fun x => !((fun x => x.at cp.1 cp.2) x)) ++ l.drop ((l.take q.val).filter (fun x => !((fun x => x.at cp.1 cp.2) x))).length).map Ln.row)])) (fun q => l.length - q.val) ⟨i0 + 1, by omega, by omega⟩ ?_ ?_
      · have hm : min i0 l.length = i0 := by omega
        simp [hstart, hm, rLn, Ln.row, lnDec, rCapL, rI, irow, irowDec]
      rintro ⟨j, hj1, hj2⟩
      have hsub : ((l.take j).filter (fun x => !((fun x => x.at cp.1 cp.2) x))).length ≤ j := by
        have := (List.filter_sublist (l := l.take j) (p := fun x => !((fun x => x.at cp.1 cp.2) x))).length_le
        rw [List.length_take] at this; omega
      have hlow : ∀ (k n : Nat) (x : Row), x ∈ List.drop k (l.map Ln.row) → ∀ a ∈ x, lowA n a = true := by
        intro k n x hx
        obtain ⟨y, _, rfl⟩ := List.mem_map.1 (List.mem_of_mem_drop hx)
        exact List.all_eq_true.1 (Ln.low n y)
      have hnx : ∀ (hj : j < l.length), (l.take (j + 1)).filter (fun x => !((fun x => x.at cp.1 cp.2) x)) = (l.take j).filter (fun x => !((fun x => x.at cp.1 cp.2) x)) ++ (if (fun x => x.at cp.1 cp.2) l[j] = true then [] else [l[j]]) := by
        intro hj
        rw [List.take_succ_eq_append_getElem hj, List.filter_append]
        by_cases q : (fun x => x.at cp.1 cp.2) l[j] = true
        · simp [q]
        · simp [q]
      generalize hF : (l.take j).filter (fun x => !((fun x => x.at cp.1 cp.2) x)) = F at *
      have hwj : IntKind.i64.wrap ((j : Int) + 1) = ((j + 1 : Nat) : Int) := by rw [w64 (by omega) (by omega)]; simp
      have hwF : IntKind.i64.wrap ((F.length : Int) + 1) = ((F.length + 1 : Nat) : Int) := by rw [w64 (by omega) (by omega)]; simp
      have hFl : F.length ≤ l.length := by omega
      have hlen : F.length + (l.length - F.length) = l.length := by omega
      have hlen2 : (F ++ l.drop F.length).length = l.length := by simp; omega
      rcases Nat.lt_or_ge j l.length with hj | hj
      · replace hnx := hnx hj
        have hget : (F ++ l.drop F.length)[j]? = some l[j] := by
          rw [List.getElem?_append_right (by omega), List.getElem?_drop, show F.length + (j - F.length) = j by omega, List.getElem?_eq_getElem hj]
        by_cases q : (fun x => x.at cp.1 cp.2) l[j] = true
        · simp only [q, if_true, List.append_nil] at hnx
          have hlr : ((F ++ l.drop F.length).map Ln.row).length = l.length := by simpa using hlen2
          have hgr : ((F ++ l.drop F.length).map Ln.row)[j]? = some (Ln.row l[j]) := by simp only [List.getElem?_map, hget, Option.map_some]
          generalize hX : (F ++ l.drop F.length).map Ln.row = X at *
          have hgj : ∀ (h : j < X.length), X[j] = Ln.row l[j] := by
            intro h; rw [List.getElem?_eq_getElem h] at hgr; exact Option.some.inj hgr
          simp [Try.ntmps41, Try.results41, cSl, cp0, cp1, cI, cD, hj, hwj, hlr, hgr, hgj, q, fillDelNm, rLn, Ln.row, lnDec, rCapL, rI, irow, irowDec]
          refine ⟨j + 1, ?_⟩
          simp [hnx, ← hX]
          exact ⟨by omega, ⟨by omega, by omega⟩, hlow _ _⟩
        · simp only [q, if_false, Bool.false_eq_true] at hnx
          have hlr : ((F ++ l.drop F.length).map Ln.row).length = l.length := by simpa using hlen2
          have hgr : ((F ++ l.drop F.length).map Ln.row)[j]? = some (Ln.row l[j]) := by simp only [List.getElem?_map, hget, Option.map_some]
          have hFj : F.length < l.length := by omega
          have hset : ((F ++ l.drop F.length).map Ln.row).set F.length (Ln.row l[j]) = ((F ++ [l[j]]) ++ l.drop (F.length + 1)).map Ln.row := by
            rw [List.drop_eq_getElem_cons hFj, List.map_append, List.set_append_right _ _ (by simp)]
            simp only [List.length_map, Nat.sub_self, List.map_cons, List.set_cons_zero, List.map_append, List.map_nil, List.append_assoc, List.cons_append, List.nil_append]
          have hgF0 : ((F ++ l.drop F.length).map Ln.row)[F.length]? = some (Ln.row l[F.length]) := by
            rw [List.getElem?_map, List.getElem?_append_right (by omega), List.getElem?_drop, Nat.sub_self, Nat.add_zero, List.getElem?_eq_getElem hFj]; rfl
          generalize hX : (F ++ l.drop F.length).map Ln.row = X at *
          have hgj : ∀ (h : j < X.length), X[j] = Ln.row l[j] := by
            intro h; rw [List.getElem?_eq_getElem h] at hgr; exact Option.some.inj hgr
          simp only [Bool.not_eq_true] at q
          have hgF : ∀ (h : F.length < X.length), X[F.length] = Ln.row l[F.length] := by
            intro h; rw [List.getElem?_eq_getElem h] at hgF0; exact Option.some.inj hgF0
          simp [Try.ntmps41, Try.results41, cSl, cp0, cp1, cI, cD, hj, hwj, hwF, hFj, hlr, hgr, hgj, hgF, q, fillDelNm, rLn, Ln.row, lnDec, rCapL, rI, irow, irowDec]
          refine ⟨j + 1, by omega, ?_⟩
          simp [hnx]
          refine ⟨?_, ⟨by omega, by omega⟩, hlow _ _⟩
          refine Eq.trans ?_ hset.symm
          simp [rLn, Ln.row, lnDec, rCapL, rI, irow, irowDec]
      · have hje : j = l.length := by omega
        subst hje
        rw [List.take_length] at hF
        rw [hF]
        simp [Try.ntmps41, Try.results41, cSl, cp0, cp1, cI, cD, fillDelNm, hFl, hlen, rLn, Ln.row, lnDec, rCapL, rI, irow, irowDec]
        exact ⟨[], by simp⟩
def Ln.hit (x : Ln) (o : Od) : Bool := decide (x.space = o.space ∧ (o.page < 0 ∨ x.page = o.page))
theorem forget1_pure : PureOk Try.prog 57 (argM (cAgg rLn) fun x => argM (cFp rOd) fun o => finM (some (.v (.bool (x.hit o))))) := by
  refine pure2 Try.func57 rfl ?_
  rintro x o r hr
  simp only [Option.some.injEq] at hr
  subst hr
  refine body_gen noOrc_ok fxMix (by kernel_rfl) (by simp [Try.ntmps57]) ?_
  intro C cP cI cN cD cF cA
  replace cI : C.inl = fun _ => false := cI
  replace cD : C.dyn = fun _ => [] := cD
  clear cP cN cF cA
  unfold Ln.hit
  by_cases h1 : x.space = o.space <;> by_cases h2 : o.page < 0 <;> by_cases h3 : x.page = o.page <;> simp [Try.ntmps57, Try.results57, cSl, cI, cD, rLn, Ln.row, lnDec, rOd, odDec, Od.row, h1, h2, h3]
theorem forgetI_pure : PureOk Try.prog 55 (argM (cSl rLn) fun l => argM (cFn 57 rCapO) fun cp => finM (if l.length ≤ 4294967296 then some (.v (.int .i64 (idxP ((fun x => x.hit cp)) l))) else none)) := by
  refine pure2 Try.func55 rfl ?_
  rintro l cp r hr
  by_cases hc : l.length ≤ 4294967296
  case neg => rw [if_neg hc] at hr; cases hr
  rw [if_pos hc] at hr
  simp only [Option.some.injEq] at hr
  subst hr
  refine body_gen (noOrc_ok.withP forget1_pure) fxMix (by kernel_rfl) (by simp [Try.ntmps55]) ?_
  intro C cP cI cN cD cF cA
  have cp0 := orcP forget1_pure (C := C) (by rw [cP]; rfl)
  replace cI : C.inl = fun _ => false := cI
  replace cD : C.dyn = fun _ => [] := cD
  clear cP cN cF cA
  simp [Try.ntmps55, Try.results55, cSl, cp0, cI, cD, rLn, Ln.row, lnDec, rCapO, rOd, odDec, Od.row]
  refine loop_for l.length (fun k (_ : Unit) => ([(0, .fsl false 3 (l.map Ln.row)), (1, .fn 57 [.fptr cp.row 0]), (7, .v (.int .i64 l.length)), (8, .v (.int .i64 k))], [])) (fun k _ => ((l.drop k).findIdx? ((fun x => x.hit cp))).map (· + k) = l.findIdx? ((fun x => x.hit cp))) () hc (by simp) (by simp [rLn, Ln.row, lnDec, rCapO, rOd, odDec, Od.row]) ?_ ?_
  · intro k _ hk hall hw
    by_cases q : ((fun x => x.hit cp)) l[k] = true
    · rw [find_drop hk, if_pos q] at hall
      try simp at q
      simp [Try.ntmps55, Try.results55, cSl, cp0, cI, cD, hk, hw, rLn, Ln.row, lnDec, rCapO, rOd, odDec, Od.row, q, idxP, ← hall]
    · rw [find_drop hk, if_neg q] at hall
      try simp at q
      simp [Try.ntmps55, Try.results55, cSl, cp0, cI, cD, hk, hw, rLn, Ln.row, lnDec, rCapO, rOd, odDec, Od.row, q]
      simpa using hall
  · intro _ hall
    simp at hall
    simp [Try.ntmps55, Try.results55, cSl, cp0, cI, cD, idxP, ← hall]
theorem forgetDelNm : (Try.f57.name = "runtime.NumGoroutine") = False := eq_false (beq_eq_false_iff_ne.1 fxFm57)
theorem forgetDel : InlOk Try.prog 41 (own1 rLn (argG (cFn 57 rCapO) fun cp => finG (if True then some ((.esl, [])) else none)) (fun l => argG (cFn 57 rCapO) fun cp => finG (if l.length ≤ 1048576 then some ((.osl 0 3 0 (l.filter (fun x => !((fun x => x.hit cp) x))).length l.length, [some (3, (l.filter (fun x => !((fun x => x.hit cp) x))).map Ln.row ++ List.replicate (l.length - (l.filter (fun x => !((fun x => x.hit cp) x))).length) [.v (.int .i64 0), .v (.int .i64 0), .v (.int .u32 0)])])) else none))) := by
  refine own1_1 Ln.exact Try.func41 rfl ?_ ?_
  · rintro cp r H' hr
    by_cases hc : True
    case neg => rw [if_neg hc] at hr; cases hr
    rw [if_pos hc] at hr
    simp only [Option.some.injEq, Prod.mk.injEq] at hr
    obtain ⟨rfl, rfl⟩ := hr
    refine bodyI_of ((noOrc_ok.withP forget1_pure).withP forgetI_pure) fxMix (by kernel_rfl) (by simp [Try.ntmps41]) ?_
    intro C cP cI cN cD cF cA
    have cp0 := orcP forget1_pure (C := C) (by rw [cP]; rfl)
    have cp1 := orcP forgetI_pure (C := C) (by rw [cP]; rfl)
    replace cI : C.inl = fun _ => false := cI
    replace cD : C.dyn = fun _ => [] := cD
    clear cP cN cF cA
    simp [Try.ntmps41, Try.results41, cSl, cp0, cp1, cI, cD, idxP, rLn, Ln.row, lnDec, rCapO, rOd, odDec, Od.row]
  · rintro l cp r H' hne hr
    by_cases hc : l.length ≤ 1048576
    case neg => rw [if_neg hc] at hr; cases hr
    rw [if_pos hc] at hr
    simp only [Option.some.injEq, Prod.mk.injEq] at hr
    obtain ⟨rfl, rfl⟩ := hr
    refine bodyI_of ((noOrc_ok.withP forget1_pure).withP forgetI_pure) fxMix (by kernel_rfl) (by simp [Try.ntmps41]) ?_
    intro C cP cI cN cD cF cA
    have cp0 := orcP forget1_pure (C := C) (by rw [cP]; rfl)
    have cp1 := orcP forgetI_pure (C := C) (by rw [cP]; rfl)
    replace cI : C.inl = fun _ => false := cI
    replace cD : C.dyn = fun _ => [] := cD
    clear cP cN cF cA
    by_cases h1 : idxP ((fun x => x.hit cp)) l < 0
    · have hall := idxP_none h1
      have hf : l.filter (fun x => !((fun x => x.hit cp) x)) = l := by
        rw [List.filter_eq_self]
        intro x hx
        simp [hall x hx]
      have hi : idxP ((fun x => x.hit cp)) l = -1 := by
        have hh : ∀ z : Int, z < 0 → -1 ≤ z → z = -1 := by omega
        refine hh _ h1 ?_
        unfold idxP; split <;> omega
      have hl2 : l.length ≤ 4294967296 := by omega
      rw [hf]
      simp [Try.ntmps41, Try.results41, cSl, cp0, cp1, cI, cD, hi, hl2, rLn, Ln.row, lnDec, rCapO, rOd, odDec, Od.row]
      exact ⟨[], by simp⟩
    · obtain ⟨i0, hi, hi0, hp0, hb0⟩ := idxP_some h1
      have hl2 : l.length ≤ 4294967296 := by omega
      have hi1 : ¬ ((i0 : Int) = -1) := by omega
      have hw0 : IntKind.i64.wrap ((i0 : Int) + 1) = ((i0 + 1 : Nat) : Int) := by rw [w64 (by omega) (by omega)]; simp
      have hne1 : ¬ l = [] := hne
      have hpos : 0 < l.length := List.length_pos_iff.2 hne
      have hstart : (l.take (i0 + 1)).filter (fun x => !((fun x => x.hit cp) x)) = l.take i0 := by
        rw [List.take_succ_eq_append_getElem hi0, List.filter_append]
        have e1 : (l.take i0).filter (fun x => !((fun x => x.hit cp) x)) = l.take i0 := by
          rw [List.filter_eq_self]
          intro x hx
          obtain ⟨j, hj, rfl⟩ := List.mem_iff_getElem.1 hx
          simp at hj
          have := hb0 j (by omega)
          simp [this]
        rw [e1]
        simp [hp0]
      simp [Try.ntmps41, Try.results41, cSl, cp0, cp1, cI, cD, hi, hi1, hl2, hw0, rLn, Ln.row, lnDec, rCapO, rOd, odDec, Od.row]
      refine loop_inv (σ := {j : Nat // i0 < j ∧ j ≤ l.length}) (fun q => ([(0, .osl 0 3 0 l.length l.length), (1, .fn 57 [.fptr cp.row 0]), (5, .v (.int .i64 ((l.take q.val).filter (fun x => !((fun x => x.hit cp) x))).length)), (6, .v (.int .i64 q.val))], [some (3, ((l.take q.val).filter (fun x => !((fun x => x.hit cp) x)) ++ l.drop ((l.take q.val).filter (fun x => !((fun x => x.hit cp) x))).length).map Ln.row)])) (fun q => l.length - q.val) ⟨i0 + 1, by omega, by omega⟩ ?_ ?_
      · have hm : min i0 l.length = i0 := by omega
        simp [hstart, hm, rLn, Ln.row, lnDec, rCapO, rOd, odDec, Od.row]
      rintro ⟨j, hj1, hj2⟩
      have hsub : ((l.take j).filter (fun x => !((fun x => x.hit cp) x))).length ≤ j := by
        have := (List.filter_sublist (l := l.take j) (p := fun x => !((fun x => x.hit cp) x))).length_le
        rw [List.length_take] at this; omega
      have hlow : ∀ (k n : Nat) (x : Row), x ∈ List.drop k (l.map Ln.row) → ∀ a ∈ x, lowA n a = true := by
        intro k n x hx
        obtain ⟨y, _, rfl⟩ := List.mem_map.1 (List.mem_of_mem_drop hx)
        exact List.all_eq_true.1 (Ln.low n y)
      have hnx : ∀ (hj : j < l.length), (l.take (j + 1)).filter (fun x => !((fun x => x.hit cp) x)) = (l.take j).filter (fun x => !((fun x => x.hit cp) x)) ++ (if (fun x => x.hit cp) l[j] = true then [] else [l[j]]) := by
        intro hj
        rw [List.take_succ_eq_append_getElem hj, List.filter_append]
        by_cases q : (fun x => x.hit cp) l[j] = true
        · simp [q]
        · simp [q]
      generalize hF : (l.take j).filter (fun x => !((fun x => x.hit cp) x)) = F at *
      have hwj : IntKind.i64.wrap ((j : Int) + 1) = ((j + 1 : Nat) : Int) := by rw [w64 (by omega) (by omega)]; simp
      have hwF : IntKind.i64.wrap ((F.length : Int) + 1) = ((F.length + 1 : Nat) : Int) := by rw [w64 (by omega) (by omega)]; simp
      have hFl : F.length ≤ l.length := by omega
      have hlen : F.length + (l.length - F.length) = l.length := by omega
      have hlen2 : (F ++ l.drop F.length).length = l.length := by simp; omega
      rcases Nat.lt_or_ge j l.length with hj | hj
      · replace hnx := hnx hj
        have hget : (F ++ l.drop F.length)[j]? = some l[j] := by
          rw [List.getElem?_append_right (by omega), List.getElem?_drop, show F.length + (j - F.length) = j by omega, List.getElem?_eq_getElem hj]
        by_cases q : (fun x => x.hit cp) l[j] = true
        · simp only [q, if_true, List.append_nil] at hnx
          have hlr : ((F ++ l.drop F.length).map Ln.row).length = l.length := by simpa using hlen2
          have hgr : ((F ++ l.drop F.length).map Ln.row)[j]? = some (Ln.row l[j]) := by simp only [List.getElem?_map, hget, Option.map_some]
          generalize hX : (F ++ l.drop F.length).map Ln.row = X at *
          have hgj : ∀ (h : j < X.length), X[j] = Ln.row l[j] := by
            intro h; rw [List.getElem?_eq_getElem h] at hgr; exact Option.some.inj hgr
          simp [Try.ntmps41, Try.results41, cSl, cp0, cp1, cI, cD, hj, hwj, hlr, hgr, hgj, q, forgetDelNm, rLn, Ln.row, lnDec, rCapO, rOd, odDec, Od.row]
          refine ⟨j + 1, ?_⟩
          simp [hnx, ← hX]
          exact ⟨by omega, ⟨by omega, by omega⟩, hlow _ _⟩
        · simp only [q, if_false, Bool.false_eq_true] at hnx
          have hlr : ((F ++ l.drop F.length).map Ln.row).length = l.length := by simpa using hlen2
          have hgr : ((F ++ l.drop F.length).map Ln.row)[j]? = some (Ln.row l[j]) := by simp only [List.getElem?_map, hget, Option.map_some]
          have hFj : F.length < l.length := by omega
          have hset : ((F ++ l.drop F.length).map Ln.row).set F.length (Ln.row l[j]) = ((F ++ [l[j]]) ++ l.drop (F.length + 1)).map Ln.row := by
            rw [List.drop_eq_getElem_cons hFj, List.map_append, List.set_append_right _ _ (by simp)]
            simp only [List.length_map, Nat.sub_self, List.map_cons, List.set_cons_zero, List.map_append, List.map_nil, List.append_assoc, List.cons_append, List.nil_append]
          have hgF0 : ((F ++ l.drop F.length).map Ln.row)[F.length]? = some (Ln.row l[F.length]) := by
            rw [List.getElem?_map, List.getElem?_append_right (by omega), List.getElem?_drop, Nat.sub_self, Nat.add_zero, List.getElem?_eq_getElem hFj]; rfl
          generalize hX : (F ++ l.drop F.length).map Ln.row = X at *
          have hgj : ∀ (h : j < X.length), X[j] = Ln.row l[j] := by
            intro h; rw [List.getElem?_eq_getElem h] at hgr; exact Option.some.inj hgr
          simp only [Bool.not_eq_true] at q
          have hgF : ∀ (h : F.length < X.length), X[F.length] = Ln.row l[F.length] := by
            intro h; rw [List.getElem?_eq_getElem h] at hgF0; exact Option.some.inj hgF0
          simp [Try.ntmps41, Try.results41, cSl, cp0, cp1, cI, cD, hj, hwj, hwF, hFj, hlr, hgr, hgj, hgF, q, forgetDelNm, rLn, Ln.row, lnDec, rCapO, rOd, odDec, Od.row]
          refine ⟨j + 1, by omega, ?_⟩
          simp [hnx]
          refine ⟨?_, ⟨by omega, by omega⟩, hlow _ _⟩
          refine Eq.trans ?_ hset.symm
          simp [rLn, Ln.row, lnDec, rCapO, rOd, odDec, Od.row]
      · have hje : j = l.length := by omega
        subst hje
        rw [List.take_length] at hF
        rw [hF]
        simp [Try.ntmps41, Try.results41, cSl, cp0, cp1, cI, cD, forgetDelNm, hFl, hlen, rLn, Ln.row, lnDec, rCapO, rOd, odDec, Od.row]
        exact ⟨[], by simp⟩
theorem forgetDel_inl : InlOk Try.prog 41 (frame1 (own1 rLn (argG (cFn 57 rCapO) fun cp => finG (if True then some ((.esl, [])) else none)) (fun l => argG (cFn 57 rCapO) fun cp => finG (if l.length ≤ 1048576 then some ((.osl 0 3 0 (l.filter (fun x => !((fun x => x.hit cp) x))).length l.length, [some (3, (l.filter (fun x => !((fun x => x.hit cp) x))).map Ln.row ++ List.replicate (l.length - (l.filter (fun x => !((fun x => x.hit cp) x))).length) [.v (.int .i64 0), .v (.int .i64 0), .v (.int .u32 0)])])) else none)))) := frame1_ok forgetDel
theorem fillDel_inl : InlOk Try.prog 41 (frame1 (own1 rLn (argG (cFn 42 rCapL) fun cp => finG (if True then some ((.esl, [])) else none)) (fun l => argG (cFn 42 rCapL) fun cp => finG (if l.length ≤ 1048576 then some ((.osl 0 3 0 (l.filter (fun x => !((fun x => x.at cp.1 cp.2) x))).length l.length, [some (3, (l.filter (fun x => !((fun x => x.at cp.1 cp.2) x))).map Ln.row ++ List.replicate (l.length - (l.filter (fun x => !((fun x => x.at cp.1 cp.2) x))).length) [.v (.int .i64 0), .v (.int .i64 0), .v (.int .u32 0)])])) else none)))) := frame1_ok fillDel
def zLn : Row := [.v (.int .i64 0), .v (.int .i64 0), .v (.int .u32 0)]
def forg (o : Od) (l : List Ln) : List Ln := l.filter (fun x => !(x.hit o))
theorem forget_own : InlOk Try.prog 45 (own1 rLn (argG (cAgg rOd) fun o => finG (if True then some ((.esl, [])) else none)) (fun l => argG (cAgg rOd) fun o => finG (if l.length ≤ 1048576 then some ((.osl 0 3 0 (forg o l).length l.length, [some (3, (forg o l).map Ln.row ++ List.replicate (l.length - (forg o l).length) zLn)])) else none))) := by
  refine own1_1 Ln.exact Try.func45 rfl ?_ ?_
  · rintro o r H' hr
    by_cases hc : True
    case neg => rw [if_neg hc] at hr; cases hr
    rw [if_pos hc] at hr
    simp only [Option.some.injEq, Prod.mk.injEq] at hr
    obtain ⟨rfl, rfl⟩ := hr
    refine bodyI_of (noOrc_ok.withI forgetDel_inl) fxMix (by kernel_rfl) (by simp [Try.ntmps45]) ?_
    intro C cP cI cN cD cF cA
    have cn0 := orcI forgetDel_inl (C := C) (by rw [cN]; rfl)
    replace cI := fun g => congrFun cI g
    simp only [Orc.withP, Orc.withI, Orc.withF, Orc.withD, Orc.withA, noOrc] at cI
    replace cD : C.dyn = fun _ => [] := cD
    clear cP cN cF cA
    simp [Try.ntmps45, Try.results45, cSl, cn0, cI, cD, rLn, lnDec, Ln.row, rCapO, rOd, odDec, Od.row]
    done
  · rintro l o r H' hne hr
    by_cases hc : l.length ≤ 1048576
    case neg => rw [if_neg hc] at hr; cases hr
    rw [if_pos hc] at hr
    simp only [Option.some.injEq, Prod.mk.injEq] at hr
    obtain ⟨rfl, rfl⟩ := hr
    refine bodyI_of (noOrc_ok.withI forgetDel_inl) fxMix (by kernel_rfl) (by simp [Try.ntmps45]) ?_
    intro C cP cI cN cD cF cA
    have cn0 := orcI forgetDel_inl (C := C) (by rw [cN]; rfl)
    replace cI := fun g => congrFun cI g
    simp only [Orc.withP, Orc.withI, Orc.withF, Orc.withD, Orc.withA, noOrc] at cI
    replace cD : C.dyn = fun _ => [] := cD
    clear cP cN cF cA
    have hpos : 0 < l.length := List.length_pos_iff.2 hne
    simp [Try.ntmps45, Try.results45, cSl, cn0, cI, cD, rLn, lnDec, Ln.row, rCapO, rOd, odDec, Od.row, hne, hpos, hc, forg, zLn]
    exact ⟨[], by simp⟩
theorem forget_inl : InlOk Try.prog 45 (frame1 (own1 rLn (argG (cAgg rOd) fun o => finG (if True then some ((.esl, [])) else none)) (fun l => argG (cAgg rOd) fun o => finG (if l.length ≤ 1048576 then some ((.osl 0 3 0 (forg o l).length l.length, [some (3, (forg o l).map Ln.row ++ List.replicate (l.length - (forg o l).length) zLn)])) else none)))) := frame1_ok forget_own
end Go.Proofs.Ytdhpgdfjogklaaa
