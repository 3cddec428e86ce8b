/- Package twin: buddies, Check, New, Most, apart. -/
import Derived.Test.YtjohjiphjmcolaaTwA
namespace Go.Proofs.Ytjohjiphjmcolaa
open Go.AI
set_option maxHeartbeats 2000000
set_option maxRecDepth 100000
set_option linter.unusedSimpArgs false
set_option linter.unusedVariables false
attribute [local simp] wpA wpX RunA RunD runF foot footP footB idsA bare apart runL step1 gsel_f gsel_t gsel_s res_same res_and1 res_and2 res_and3 res_and4 res_and5 res_and6 res_false res_true res_v res_ptr res_fptr res_osl res_xsl soft aAppendZ aCap ovlI ovlJ res_fsl res_esl res_agg res_tup res_fn res_junk res_anyb aPick hk imp_left iteV dstOk guardOk astep astepE AI.ev AI.look AI.put envOf aBox cellsOf allOne allOneA oneA Value.oneCell' Value.cells newObj' aFieldAddr aLoad obj readAt thenA blockA condA retA resA tupA view hot hotC hotR depthV cAgg cInt cBool mkAgg allV aAlloc aBuild fillA writeAt aStore isAggA aField idx aIndexAddr aIndex bnd aSlice aExtract aLen aBuiltin aCall isStatic eqAgg eqTy eqC ev_add ev_sub ev_mul ev_quo ev_rem ev_and ev_or ev_xor ev_andNot ev_shl ev_shr ev_eql ev_neq ev_lss ev_leq ev_gtr ev_geq ev_agg w64 wu32 wu8 ev_not ev_neg Cod.plain RCod.plain argM finM cold coldC coldR goInt intDec boolDec aggDec Weaker heapW lowA lowC Again slDec undef aBuildSlice setRows aAppend rowsOf aMakeSlice aClear aCopy softer_self softer_nil valsOf ev_min2 ev_max2 hotR_set hotR_append take_map_set irow_cold irow_mapM irow_mapMc irow_view irow_viewc irow_hotR irow_ren irow_renc irow_low WeakT heapT thOf ren renC AgainT NextF NextT fnDec cFn rNil selfLt natLt0 natLt1 getLastMap frame0 frame1 own0 own1 argG finG tau tauI tauO tauC bareA bareC bareH irow_tau irow_tauc irow_bare irow_flat irow_bareR ownA_nil ownT_nil ownA_c ownT_c ownA_s ownT_s takeMapLen footC plainA noId noIdC cloneF frame0F frame1F insertF replaceI replaceF cellDec rCell fpDec cFp rTwo deleteF RunR RunE runFT footAt hotR_cat tmodN fxSz2 fxBy2 fxAg2 fxZe2 fxSl2 fxAr2 fxPl2 fxSz3 fxBy3 fxAg3 fxZe3 fxSl3 fxAr3 fxPl3 fxSz4 fxBy4 fxAg4 fxZe4 fxSl4 fxAr4 fxPl4 fxSz5 fxBy5 fxAg5 fxZe5 fxSl5 fxAr5 fxPl5 fxSz9 fxBy9 fxAg9 fxZe9 fxSl9 fxAr9 fxPl9 fxSz12 fxBy12 fxAg12 fxZe12 fxSl12 fxAr12 fxPl12 fxSz13 fxBy13 fxAg13 fxZe13 fxSl13 fxAr13 fxFi13x0 fxFi13x1 fxPl13 fxSz21 fxBy21 fxAg21 fxZe21 fxSl21 fxAr21 fxPl21 fxSz22 fxBy22 fxAg22 fxZe22 fxSl22 fxAr22 fxPl22 fxSz23 fxBy23 fxAg23 fxZe23 fxSl23 fxAr23 fxFi23x0 fxFi23x1 fxFi23x2 fxPl23 fxSz24 fxBy24 fxAg24 fxZe24 fxSl24 fxAr24 fxFi24x0 fxFi24x1 fxFi24x2 fxPl24 fxSz25 fxBy25 fxAg25 fxZe25 fxSl25 fxAr25 fxPl25 fxSz42 fxBy42 fxAg42 fxZe42 fxSl42 fxAr42 fxPl42 fxSz43 fxBy43 fxAg43 fxZe43 fxSl43 fxAr43 fxFi43x0 fxFi43x1 fxPl43 fxSz44 fxBy44 fxAg44 fxZe44 fxSl44 fxAr44 fxFi44x0 fxFi44x1 fxPl44 fxSz48 fxBy48 fxAg48 fxZe48 fxSl48 fxAr48 fxFi48x0 fxFi48x1 fxPl48 fxSz49 fxBy49 fxAg49 fxZe49 fxSl49 fxAr49 fxFi49x0 fxFi49x1 fxPl49 fxSz53 fxBy53 fxAg53 fxZe53 fxSl53 fxAr53 fxPl53 fxSz59 fxBy59 fxAg59 fxZe59 fxSl59 fxAr59 fxPl59 fxSz68 fxBy68 fxAg68 fxZe68 fxSl68 fxAr68 fxPl68 fxSz85 fxBy85 fxAg85 fxZe85 fxSl85 fxAr85 fxPl85 fxSz91 fxBy91 fxAg91 fxZe91 fxSl91 fxAr91 fxPl91 fxSz92 fxBy92 fxAg92 fxZe92 fxSl92 fxAr92 fxFi92x0 fxPl92 fxSz95 fxBy95 fxAg95 fxZe95 fxSl95 fxAr95 fxPl95 fxSz99 fxBy99 fxAg99 fxZe99 fxSl99 fxAr99 fxPl99 fxSz104 fxBy104 fxAg104 fxZe104 fxSl104 fxAr104 fxPl104 fxEq24 fxEq49 fxEq53 fxCv2x2 fxCv2x3 fxCv2x5 fxCv2x12 fxCv2x21 fxCv2x25 fxCv2x95 fxCv3x2 fxCv3x3 fxCv3x5 fxCv3x12 fxCv3x21 fxCv3x25 fxCv3x95 fxCv5x2 fxCv5x3 fxCv5x5 fxCv5x12 fxCv5x21 fxCv5x25 fxCv5x95 fxCv12x2 fxCv12x3 fxCv12x5 fxCv12x12 fxCv12x21 fxCv12x25 fxCv12x95 fxCv21x2 fxCv21x3 fxCv21x5 fxCv21x12 fxCv21x21 fxCv21x25 fxCv21x95 fxCv25x2 fxCv25x3 fxCv25x5 fxCv25x12 fxCv25x21 fxCv25x25 fxCv25x95 fxCv95x2 fxCv95x3 fxCv95x5 fxCv95x12 fxCv95x21 fxCv95x25 fxCv95x95 fxEb4 fxNb4 fxLt9 fxLn22 fxNe22 fxNn22 fxLn42 fxNe42 fxNn42 fxLn59 fxNe59 fxNn59 fxLn68 fxNe68 fxNn68 fxFn3 fxFm3 fxFb3 fxFi3 fxFj3 fxFn4 fxFm4 fxFb4 fxFi4 fxFj4 fxFn5 fxFm5 fxFb5 fxFi5 fxFj5 fxFn6 fxFm6 fxFb6 fxFi6 fxFj6 fxFn7 fxFm7 fxFb7 fxFi7 fxFj7 fxFn8 fxFm8 fxFb8 fxFi8 fxFj8 fxFn9 fxFm9 fxFb9 fxFi9 fxFj9 fxFn10 fxFm10 fxFb10 fxFi10 fxFj10 fxFn11 fxFm11 fxFb11 fxFi11 fxFj11 fxFn12 fxFm12 fxFb12 fxFi12 fxFj12 fxFn13 fxFm13 fxFb13 fxFi13 fxFj13 fxFn14 fxFm14 fxFb14 fxFi14 fxFj14 fxFn15 fxFm15 fxFb15 fxFi15 fxFj15 fxFn16 fxFm16 fxFb16 fxFi16 fxFj16 fxFn17 fxFm17 fxFb17 fxFi17 fxFj17 fxFn18 fxFm18 fxFb18 fxFi18 fxFj18 fxFn19 fxFm19 fxFb19 fxFi19 fxFj19 fxFn20 fxFm20 fxFb20 fxFi20 fxFj20 fxFn21 fxFm21 fxFb21 fxFi21 fxFj21 fxFn22 fxFm22 fxFb22 fxFi22 fxFj22 fxFn23 fxFm23 fxFb23 fxFi23 fxFj23 fxFn24 fxFm24 fxFb24 fxFi24 fxFj24 fxFn25 fxFm25 fxFb25 fxFi25 fxFj25 fxFn26 fxFm26 fxFb26 fxFi26 fxFj26 fxFn27 fxFm27 fxFb27 fxFi27 fxFj27 fxFn28 fxFm28 fxFb28 fxFi28 fxFj28 fxFn29 fxFm29 fxFb29 fxFi29 fxFj29 fxFn30 fxFm30 fxFb30 fxFi30 fxFj30 fxFn31 fxFm31 fxFb31 fxFi31 fxFj31 fxFn32 fxFm32 fxFb32 fxFi32 fxFj32 fxFn33 fxFm33 fxFb33 fxFi33 fxFj33 fxFn34 fxFm34 fxFb34 fxFi34 fxFj34 fxFn35 fxFm35 fxFb35 fxFi35 fxFj35 fxFn36 fxFm36 fxFb36 fxFi36 fxFj36 fxFn37 fxFm37 fxFb37 fxFi37 fxFj37 fxFn38 fxFm38 fxFb38 fxFi38 fxFj38 fxFn39 fxFm39 fxFb39 fxFi39 fxFj39 fxFn40 fxFm40 fxFb40 fxFi40 fxFj40 fxFn41 fxFm41 fxFb41 fxFi41 fxFj41 fxFn42 fxFm42 fxFb42 fxFi42 fxFj42 fxFn43 fxFm43 fxFb43 fxFi43 fxFj43 fxFn44 fxFm44 fxFb44 fxFi44 fxFj44 fxFn45 fxFm45 fxFb45 fxFi45 fxFj45 fxFn46 fxFm46 fxFb46 fxFi46 fxFj46 fxFn47 fxFm47 fxFb47 fxFi47 fxFj47 fxFn48 fxFm48 fxFb48 fxFi48 fxFj48 fxFn49 fxFm49 fxFb49 fxFi49 fxFj49 fxFn50 fxFm50 fxFn51 fxFm51 fxFb51 fxFi51 fxFj51 fxFn52 fxFm52 fxFb52 fxFi52 fxFj52 fxFn53 fxFm53 fxFn54 fxFm54 fxFb54 fxFi54 fxFj54 fxFn55 fxFm55 fxFb55 fxFi55 fxFj55 fxFn56 fxFm56 fxFb56 fxFi56 fxFj56 fxFn57 fxFm57 fxFb57 fxFi57 fxFj57 fxFn58 fxFm58 fxFb58 fxFi58 fxFj58
attribute [local simp] Rm.eta Rm.cold Rm.mapM Rm.mapMc Rm.view Rm.viewc Rm.hotR Rm.ren Rm.renc Rm.low Rm.tau Rm.tauc Rm.bare Rm.flat Rm.flat1 Rm.mapMt Rm.mapMd Rm.coldt Rm.coldd Rm.hotRt Rm.hotRd
attribute [local simp] Twn.eta Twn.dec_row Twn.dec_hrow Twn.cold Twn.hcold Twn.mapM Twn.mapMc Twn.hmapM Twn.hmapMc Twn.view Twn.viewc Twn.hview Twn.hviewc Twn.hotR Twn.ren Twn.renc Twn.low
theorem bud_pure : PureOk Try.prog 43 (argM (cAgg rRm) fun a => argM (cAgg rRm) fun b => finM (if 0 ≤ a.order then some (.v (.bool (twBud a b))) else none)) := by
  refine pure2 Try.func43 rfl ?_
  rintro a b r hr
  by_cases hc : 0 ≤ a.order
  case neg => rw [if_neg hc] at hr; cases hr
  rw [if_pos hc] at hr
  simp only [Option.some.injEq] at hr
  subst hr
  refine body_gen noOrc_ok fxMix (by kernel_rfl) (by simp [Try.ntmps43]) ?_
  intro C cP cI cN cD cF cA
  replace cI : C.inl = fun _ => false := cI
  replace cD : C.dyn = fun _ => [] := cD
  clear cP cN cF cA
  by_cases h : a.order = b.order
  · have hc' : 0 ≤ b.order := by omega
    have h' : (a.order == b.order) = true := by simp [h]
    simp [Try.ntmps43, Try.results43, cSl, cI, cD, rRm, Rm.row, twBud, h, hc', h']
  · have h' : (a.order == b.order) = false := by simp [h]
    simp [Try.ntmps43, Try.results43, cSl, cI, cD, rRm, Rm.row, twBud, h, h']
def prevR (l : List Rm) (k : Nat) : Option Rm := match k with | 0 => none | j + 1 => l[j]?
def endR (l : List Rm) (k : Nat) : Int := match prevR l k with | none => 0 | some b => b.end_
theorem prevR_succ {l : List Rm} {k : Nat} (hk : k < l.length) : prevR l (k + 1) = some l[k] := by simp [prevR, hk]
theorem endR_succ {l : List Rm} {k : Nat} (hk : k < l.length) : endR l (k + 1) = l[k].end_ := by simp [endR, prevR_succ hk]
theorem prevR_pos {l : List Rm} {k : Nat} (h0 : ¬ k = 0) (hk : k < l.length) : ∃ hj : k - 1 < l.length, prevR l k = some l[k - 1] := by
  refine ⟨by omega, ?_⟩
  cases k with
  | zero => exact absurd rfl h0
  | succ j => simp [prevR, show j < l.length by omega]
theorem twCheck_pure : PureOk Try.prog 27 (argM (cAgg rTwn) fun t => finM (some (.v (.int .i64 (twCheck t))))) := by
  refine pure1 Try.func27 rfl ?_
  rintro t r hr
  simp only [Option.some.injEq] at hr
  subst hr
  refine body_gen (noOrc_ok.withP bud_pure) fxMix (by kernel_rfl) (by simp [Try.ntmps27]) ?_
  intro C cP cI cN cD cF cA
  have cp0 := orcP bud_pure (C := C) (by rw [cP]; rfl)
  replace cI : C.inl = fun _ => false := cI
  replace cD : C.dyn = fun _ => [] := cD
  clear cP cN cF cA
  obtain ⟨N, l⟩ := t
  unfold twCheck
  simp only
  by_cases h1 : N < 0
  · simp [Try.ntmps27, Try.results27, cSl, cp0, cI, cD, rTwn, Twn.row, h1]
  · by_cases h2 : 6 < N
    · simp [Try.ntmps27, Try.results27, cSl, cp0, cI, cD, rTwn, Twn.row, h1, h2]
    · have hN0 : 0 ≤ N := by omega
      have hN6 : N ≤ 6 := by omega
      have hNs := ishl_pw hN0 hN6
      have pN := pw_le64 hN6
      have pN0 := pw_pos N
      simp [Try.ntmps27, Try.results27, cSl, cp0, cI, cD, rTwn, Twn.row, h1, h2]
      refine loop_forB l.length (fun k (_ : Unit) => ([(1, .ptr 0 2 0 0), (3, .v (.int .i64 (endR l k))), (15, .fsl false 2 (l.map Rm.row)), (16, .v (.int .i64 l.length)), (17, .v (.int .i64 k))], [some (2, [Twn.row ⟨N, l⟩])])) (fun k _ => twGo N (endR l k) (prevR l k) (l.drop k) = twGo N 0 none l ∧ (k : Int) ≤ endR l k ∧ endR l k ≤ pw N ∧ ∀ b, prevR l k = some b → Fit N b ∧ b.end_ = endR l k) () (by rintro k _ _ ⟨_, h, h', _⟩; omega) ⟨rfl, by simp [endR, prevR], by simp [endR, prevR]; omega, by simp [prevR]⟩ (by simp [Twn.row, endR, prevR]) ?_ ?_
      · rintro k _ hk ⟨hall, hke, heN, hfit⟩ hw
        rw [List.drop_eq_getElem_cons hk, twGo] at hall
        have hkw : k < 4294967296 := by omega
        have hp1 := prevR_succ hk
        have he1 := endR_succ hk
        generalize hx : l[k] = x at *
        by_cases c1 : x.order < 0
        · have hF : twGo N 0 none l = false := by
            have hn : ¬ twOne N (endR l k) (prevR l k) x := by rintro ⟨g1, g2, g3, g4, g5, g6⟩; omega
            rw [← hall]; simp [hn]
          simp [Try.ntmps27, Try.results27, cSl, cp0, cI, cD, hk, hw, hx, Rm.row, Twn.row, c1, hF]
        by_cases c2 : N < x.order
        · have hF : twGo N 0 none l = false := by
            have hn : ¬ twOne N (endR l k) (prevR l k) x := by rintro ⟨g1, g2, g3, g4, g5, g6⟩; omega
            rw [← hall]; simp [hn]
          simp [Try.ntmps27, Try.results27, cSl, cp0, cI, cD, hk, hw, hx, Rm.row, Twn.row, c1, c2, hF]
        by_cases c3 : x.at_ < endR l k
        · have hF : twGo N 0 none l = false := by
            have hn : ¬ twOne N (endR l k) (prevR l k) x := by rintro ⟨g1, g2, g3, g4, g5, g6⟩; omega
            rw [← hall]; simp [hn]
          simp [Try.ntmps27, Try.results27, cSl, cp0, cI, cD, hk, hw, hx, Rm.row, Twn.row, c1, c2, c3, hF]
        have ho0 : 0 ≤ x.order := by omega
        have ho6 : x.order ≤ 6 := by omega
        have hos := ishl_pw ho0 ho6
        have po := pw_le64 ho6
        have po0 := pw_pos x.order
        have hwd : IntKind.i64.wrap (pw N - pw x.order) = pw N - pw x.order := w64 (by omega) (by omega)
        by_cases c4 : pw N - pw x.order < x.at_
        · have hF : twGo N 0 none l = false := by
            have hn : ¬ twOne N (endR l k) (prevR l k) x := by rintro ⟨g1, g2, g3, g4, g5, g6⟩; omega
            rw [← hall]; simp [hn]
          simp [Try.ntmps27, Try.results27, cSl, cp0, cI, cD, hk, hw, hx, Rm.row, Twn.row, c1, c2, c3, c4, hF, hN0, ho0, hNs, hos, hwd]
        have hne : ¬ pw x.order = 0 := by omega
        have hwe : IntKind.i64.wrap (x.at_ + pw x.order) = x.end_ := by rw [w64 (by omega) (by omega)]; rfl
        by_cases c5 : x.at_.tmod (pw x.order) = 0
        case neg =>
          have hF : twGo N 0 none l = false := by rw [← hall]; simp [twOne, c5]
          simp [Try.ntmps27, Try.results27, cSl, cp0, cI, cD, hk, hw, hx, Rm.row, Twn.row, c1, c2, c3, c4, c5, hF, hN0, ho0, hNs, hos, hwd, hne]
        have hfx : Fit N x := ⟨ho0, by omega, by omega, by simp only [Rm.end_]; omega, Int.dvd_of_tmod_eq_zero c5⟩
        have hlt := hfx.lt
        have hin : (k : Int) + 1 ≤ x.end_ ∧ x.end_ ≤ pw N ∧ Fit N x := ⟨by omega, hfx.2.2.2.1, hfx⟩
        by_cases q0 : k = 0
        · have q0n : ¬ 0 < k := by omega
          have hone : twOne N (endR l k) (prevR l k) x := ⟨ho0, by omega, by omega, by omega, c5, by rw [q0]; simp [prevR]⟩
          simp only [hone, decide_true, Bool.true_and] at hall
          simp [Try.ntmps27, Try.results27, cSl, cp0, cI, cD, hk, hw, hx, Rm.row, Twn.row, c1, c2, c3, c4, c5, hN0, ho0, hNs, hos, hwd, hne, hwe, q0n, hp1, he1]
          exact ⟨hall, hin⟩
        · obtain ⟨hj, hp⟩ := prevR_pos q0 hk
          have hjw : IntKind.i64.wrap ((k : Int) - 1) = ((k - 1 : Nat) : Int) := by rw [w64 (by omega) (by omega)]; omega
          have hfp := (hfit _ hp).1
          have hp0 : 0 ≤ l[k - 1].order := hfp.1
          by_cases c6 : twBud l[k - 1] x = true
          · have hF : twGo N 0 none l = false := by rw [← hall]; simp [twOne, hp, c6]
            simp [Try.ntmps27, Try.results27, cSl, cp0, cI, cD, hk, hj, hw, hx, Rm.row, rRm, rmDec, Twn.row, c1, c2, c3, c4, c5, c6, hN0, ho0, hNs, hos, hwd, hne, hwe, q0, hjw, hp0, hF]
          · simp only [Bool.not_eq_true] at c6
            have hone : twOne N (endR l k) (prevR l k) x := ⟨ho0, by omega, by omega, by omega, c5, by rw [hp]; simp [c6]⟩
            simp only [hone, decide_true, Bool.true_and] at hall
            simp [Try.ntmps27, Try.results27, cSl, cp0, cI, cD, hk, hj, hw, hx, Rm.row, rRm, rmDec, Twn.row, c1, c2, c3, c4, c5, c6, hN0, ho0, hNs, hos, hwd, hne, hwe, q0, hjw, hp0, hp1, he1]
            exact ⟨hall, hin⟩
      · rintro _ ⟨hall, _, _, _⟩
        simp only [List.drop_length, twGo] at hall
        simp [Try.ntmps27, Try.results27, cSl, cp0, cI, cD, ← hall]
end Go.Proofs.Ytjohjiphjmcolaa
