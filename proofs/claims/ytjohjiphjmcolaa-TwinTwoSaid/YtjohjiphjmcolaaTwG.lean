/- The laws of chapter 22 return true. -/
import Derived.Test.YtjohjiphjmcolaaTwE
import Derived.Test.YtjohjiphjmcolaaTwF
namespace Go.Proofs.Ytjohjiphjmcolaa
open Go.AI
set_option maxHeartbeats 2000000
set_option maxRecDepth 100000
set_option linter.unusedSimpArgs false
set_option linter.unusedVariables false
attribute [local simp] wpA wpX RunA RunD runF foot footP footB idsA bare apart runL step1 gsel_f gsel_t gsel_s res_same res_and1 res_and2 res_and3 res_and4 res_and5 res_and6 res_false res_true res_v res_ptr res_fptr res_osl res_xsl soft aAppendZ aCap ovlI ovlJ res_fsl res_esl res_agg res_tup res_fn res_junk res_anyb aPick hk imp_left iteV dstOk guardOk astep astepE AI.ev AI.look AI.put envOf aBox cellsOf allOne allOneA oneA Value.oneCell' Value.cells newObj' aFieldAddr aLoad obj readAt thenA blockA condA retA resA tupA view hot hotC hotR depthV cAgg cInt cBool mkAgg allV aAlloc aBuild fillA writeAt aStore isAggA aField idx aIndexAddr aIndex bnd aSlice aExtract aLen aBuiltin aCall isStatic eqAgg eqTy eqC ev_add ev_sub ev_mul ev_quo ev_rem ev_and ev_or ev_xor ev_andNot ev_shl ev_shr ev_eql ev_neq ev_lss ev_leq ev_gtr ev_geq ev_agg w64 wu32 wu8 ev_not ev_neg Cod.plain RCod.plain argM finM cold coldC coldR goInt intDec boolDec aggDec Weaker heapW lowA lowC Again slDec undef aBuildSlice setRows aAppend rowsOf aMakeSlice aClear aCopy softer_self softer_nil valsOf ev_min2 ev_max2 hotR_set hotR_append take_map_set irow_cold irow_mapM irow_mapMc irow_view irow_viewc irow_hotR irow_ren irow_renc irow_low WeakT heapT thOf ren renC AgainT NextF NextT fnDec cFn rNil selfLt natLt0 natLt1 getLastMap frame0 frame1 own0 own1 argG finG tau tauI tauO tauC bareA bareC bareH irow_tau irow_tauc irow_bare irow_flat irow_bareR ownA_nil ownT_nil ownA_c ownT_c ownA_s ownT_s takeMapLen footC plainA noId noIdC cloneF frame0F frame1F insertF replaceI replaceF cellDec rCell fpDec cFp rTwo deleteF RunR RunE runFT footAt hotR_cat tmodN fxSz2 fxBy2 fxAg2 fxZe2 fxSl2 fxAr2 fxPl2 fxSz3 fxBy3 fxAg3 fxZe3 fxSl3 fxAr3 fxPl3 fxSz4 fxBy4 fxAg4 fxZe4 fxSl4 fxAr4 fxPl4 fxSz5 fxBy5 fxAg5 fxZe5 fxSl5 fxAr5 fxPl5 fxSz9 fxBy9 fxAg9 fxZe9 fxSl9 fxAr9 fxPl9 fxSz12 fxBy12 fxAg12 fxZe12 fxSl12 fxAr12 fxPl12 fxSz13 fxBy13 fxAg13 fxZe13 fxSl13 fxAr13 fxFi13x0 fxFi13x1 fxPl13 fxSz21 fxBy21 fxAg21 fxZe21 fxSl21 fxAr21 fxPl21 fxSz22 fxBy22 fxAg22 fxZe22 fxSl22 fxAr22 fxPl22 fxSz23 fxBy23 fxAg23 fxZe23 fxSl23 fxAr23 fxFi23x0 fxFi23x1 fxFi23x2 fxPl23 fxSz24 fxBy24 fxAg24 fxZe24 fxSl24 fxAr24 fxFi24x0 fxFi24x1 fxFi24x2 fxPl24 fxSz25 fxBy25 fxAg25 fxZe25 fxSl25 fxAr25 fxPl25 fxSz42 fxBy42 fxAg42 fxZe42 fxSl42 fxAr42 fxPl42 fxSz43 fxBy43 fxAg43 fxZe43 fxSl43 fxAr43 fxFi43x0 fxFi43x1 fxPl43 fxSz44 fxBy44 fxAg44 fxZe44 fxSl44 fxAr44 fxFi44x0 fxFi44x1 fxPl44 fxSz48 fxBy48 fxAg48 fxZe48 fxSl48 fxAr48 fxFi48x0 fxFi48x1 fxPl48 fxSz49 fxBy49 fxAg49 fxZe49 fxSl49 fxAr49 fxFi49x0 fxFi49x1 fxPl49 fxSz53 fxBy53 fxAg53 fxZe53 fxSl53 fxAr53 fxPl53 fxSz59 fxBy59 fxAg59 fxZe59 fxSl59 fxAr59 fxPl59 fxSz68 fxBy68 fxAg68 fxZe68 fxSl68 fxAr68 fxPl68 fxSz85 fxBy85 fxAg85 fxZe85 fxSl85 fxAr85 fxPl85 fxSz91 fxBy91 fxAg91 fxZe91 fxSl91 fxAr91 fxPl91 fxSz92 fxBy92 fxAg92 fxZe92 fxSl92 fxAr92 fxFi92x0 fxPl92 fxSz95 fxBy95 fxAg95 fxZe95 fxSl95 fxAr95 fxPl95 fxSz99 fxBy99 fxAg99 fxZe99 fxSl99 fxAr99 fxPl99 fxSz104 fxBy104 fxAg104 fxZe104 fxSl104 fxAr104 fxPl104 fxEq24 fxEq49 fxEq53 fxCv2x2 fxCv2x3 fxCv2x5 fxCv2x12 fxCv2x21 fxCv2x25 fxCv2x95 fxCv3x2 fxCv3x3 fxCv3x5 fxCv3x12 fxCv3x21 fxCv3x25 fxCv3x95 fxCv5x2 fxCv5x3 fxCv5x5 fxCv5x12 fxCv5x21 fxCv5x25 fxCv5x95 fxCv12x2 fxCv12x3 fxCv12x5 fxCv12x12 fxCv12x21 fxCv12x25 fxCv12x95 fxCv21x2 fxCv21x3 fxCv21x5 fxCv21x12 fxCv21x21 fxCv21x25 fxCv21x95 fxCv25x2 fxCv25x3 fxCv25x5 fxCv25x12 fxCv25x21 fxCv25x25 fxCv25x95 fxCv95x2 fxCv95x3 fxCv95x5 fxCv95x12 fxCv95x21 fxCv95x25 fxCv95x95 fxEb4 fxNb4 fxLt9 fxLn22 fxNe22 fxNn22 fxLn42 fxNe42 fxNn42 fxLn59 fxNe59 fxNn59 fxLn68 fxNe68 fxNn68 fxFn3 fxFm3 fxFb3 fxFi3 fxFj3 fxFn4 fxFm4 fxFb4 fxFi4 fxFj4 fxFn5 fxFm5 fxFb5 fxFi5 fxFj5 fxFn6 fxFm6 fxFb6 fxFi6 fxFj6 fxFn7 fxFm7 fxFb7 fxFi7 fxFj7 fxFn8 fxFm8 fxFb8 fxFi8 fxFj8 fxFn9 fxFm9 fxFb9 fxFi9 fxFj9 fxFn10 fxFm10 fxFb10 fxFi10 fxFj10 fxFn11 fxFm11 fxFb11 fxFi11 fxFj11 fxFn12 fxFm12 fxFb12 fxFi12 fxFj12 fxFn13 fxFm13 fxFb13 fxFi13 fxFj13 fxFn14 fxFm14 fxFb14 fxFi14 fxFj14 fxFn15 fxFm15 fxFb15 fxFi15 fxFj15 fxFn16 fxFm16 fxFb16 fxFi16 fxFj16 fxFn17 fxFm17 fxFb17 fxFi17 fxFj17 fxFn18 fxFm18 fxFb18 fxFi18 fxFj18 fxFn19 fxFm19 fxFb19 fxFi19 fxFj19 fxFn20 fxFm20 fxFb20 fxFi20 fxFj20 fxFn21 fxFm21 fxFb21 fxFi21 fxFj21 fxFn22 fxFm22 fxFb22 fxFi22 fxFj22 fxFn23 fxFm23 fxFb23 fxFi23 fxFj23 fxFn24 fxFm24 fxFb24 fxFi24 fxFj24 fxFn25 fxFm25 fxFb25 fxFi25 fxFj25 fxFn26 fxFm26 fxFb26 fxFi26 fxFj26 fxFn27 fxFm27 fxFb27 fxFi27 fxFj27 fxFn28 fxFm28 fxFb28 fxFi28 fxFj28 fxFn29 fxFm29 fxFb29 fxFi29 fxFj29 fxFn30 fxFm30 fxFb30 fxFi30 fxFj30 fxFn31 fxFm31 fxFb31 fxFi31 fxFj31 fxFn32 fxFm32 fxFb32 fxFi32 fxFj32 fxFn33 fxFm33 fxFb33 fxFi33 fxFj33 fxFn34 fxFm34 fxFb34 fxFi34 fxFj34 fxFn35 fxFm35 fxFb35 fxFi35 fxFj35 fxFn36 fxFm36 fxFb36 fxFi36 fxFj36 fxFn37 fxFm37 fxFb37 fxFi37 fxFj37 fxFn38 fxFm38 fxFb38 fxFi38 fxFj38 fxFn39 fxFm39 fxFb39 fxFi39 fxFj39 fxFn40 fxFm40 fxFb40 fxFi40 fxFj40 fxFn41 fxFm41 fxFb41 fxFi41 fxFj41 fxFn42 fxFm42 fxFb42 fxFi42 fxFj42 fxFn43 fxFm43 fxFb43 fxFi43 fxFj43 fxFn44 fxFm44 fxFb44 fxFi44 fxFj44 fxFn45 fxFm45 fxFb45 fxFi45 fxFj45 fxFn46 fxFm46 fxFb46 fxFi46 fxFj46 fxFn47 fxFm47 fxFb47 fxFi47 fxFj47 fxFn48 fxFm48 fxFb48 fxFi48 fxFj48 fxFn49 fxFm49 fxFb49 fxFi49 fxFj49 fxFn50 fxFm50 fxFn51 fxFm51 fxFb51 fxFi51 fxFj51 fxFn52 fxFm52 fxFb52 fxFi52 fxFj52 fxFn53 fxFm53 fxFn54 fxFm54 fxFb54 fxFi54 fxFj54 fxFn55 fxFm55 fxFb55 fxFi55 fxFj55 fxFn56 fxFm56 fxFb56 fxFi56 fxFj56 fxFn57 fxFm57 fxFb57 fxFi57 fxFj57 fxFn58 fxFm58 fxFb58 fxFi58 fxFj58
attribute [local simp] Rm.eta Rm.cold Rm.mapM Rm.mapMc Rm.view Rm.viewc Rm.hotR Rm.ren Rm.renc Rm.low Rm.tau Rm.tauc Rm.bare Rm.flat Rm.flat1 Rm.mapMt Rm.mapMd Rm.coldt Rm.coldd Rm.hotRt Rm.hotRd
attribute [local simp] Twn.eta Twn.dec_row Twn.dec_hrow Twn.cold Twn.hcold Twn.mapM Twn.mapMc Twn.hmapM Twn.hmapMc Twn.view Twn.viewc Twn.hview Twn.hviewc Twn.hotR Twn.ren Twn.renc Twn.low
theorem good1_pure : PureOk Try.prog 37 (argM (cInt .i64) fun e => finM (some (.v (.bool (e != 0))))) := by
  refine pure1 Try.func37 rfl ?_
  rintro e r hr
  simp only [Option.some.injEq] at hr
  subst hr
  refine body_gen noOrc_ok fxMix (by kernel_rfl) (by simp [Try.ntmps37]) ?_
  intro C cP cI cN cD cF cA
  replace cI : C.inl = fun _ => false := cI
  replace cD : C.dyn = fun _ => [] := cD
  clear cP cN cF cA
  simp [Try.ntmps37, Try.results37, cSl, cI, cD]
theorem goodIdx_pure : PureOk Try.prog 47 (argM (cSl (rI .i64)) fun l => argM (cFn 37 rNil) fun cp => finM (if l.length ≤ 4294967296 then some (.v (.int .i64 (idxP ((· != 0)) l))) else none)) := by
  refine pure2 Try.func47 rfl ?_
  rintro l cp r hr
  by_cases hc : l.length ≤ 4294967296
  case neg => rw [if_neg hc] at hr; cases hr
  rw [if_pos hc] at hr
  simp only [Option.some.injEq] at hr
  subst hr
  refine body_gen (noOrc_ok.withP good1_pure) fxMix (by kernel_rfl) (by simp [Try.ntmps47]) ?_
  intro C cP cI cN cD cF cA
  have cp0 := orcP good1_pure (C := C) (by rw [cP]; rfl)
  replace cI : C.inl = fun _ => false := cI
  replace cD : C.dyn = fun _ => [] := cD
  clear cP cN cF cA
  simp [Try.ntmps47, Try.results47, cSl, cp0, cI, cD, rI, irow]
  refine loop_for l.length (fun k (_ : Unit) => ([(0, .fsl false 1 (l.map (irow .i64))), (1, .fn 37 []), (7, .v (.int .i64 l.length)), (8, .v (.int .i64 k))], [])) (fun k _ => ((l.drop k).findIdx? ((· != 0))).map (· + k) = l.findIdx? ((· != 0))) () hc (by simp) (by simp [rI, irow]) ?_ ?_
  · intro k _ hk hall hw
    by_cases q : ((· != 0)) l[k] = true
    · rw [find_drop hk, if_pos q] at hall
      try simp at q
      simp [Try.ntmps47, Try.results47, cSl, cp0, cI, cD, hk, hw, rI, irow, q, idxP, ← hall]
    · rw [find_drop hk, if_neg q] at hall
      try simp at q
      simp [Try.ntmps47, Try.results47, cSl, cp0, cI, cD, hk, hw, rI, irow, q]
      simpa using hall
  · intro _ hall
    simp at hall
    simp [Try.ntmps47, Try.results47, cSl, cp0, cI, cD, idxP, ← hall]
theorem goodAny_pure : PureOk Try.prog 36 (argM (cSl (rI .i64)) fun l => argM (cFn 37 rNil) fun cp => finM (if l.length ≤ 4294967296 then some (.v (.bool (l.any ((· != 0))))) else none)) := by
  refine pure2 Try.func36 rfl ?_
  rintro l cp r hr
  by_cases hc : l.length ≤ 4294967296
  case neg => rw [if_neg hc] at hr; cases hr
  rw [if_pos hc] at hr
  simp only [Option.some.injEq] at hr
  subst hr
  refine body_gen (noOrc_ok.withP goodIdx_pure) fxMix (by kernel_rfl) (by simp [Try.ntmps36]) ?_
  intro C cP cI cN cD cF cA
  have cp0 := orcP goodIdx_pure (C := C) (by rw [cP]; rfl)
  replace cI : C.inl = fun _ => false := cI
  replace cD : C.dyn = fun _ => [] := cD
  clear cP cN cF cA
  simp [Try.ntmps36, Try.results36, cSl, cp0, cI, cD, hc, idxP_iff, rI] <;> (rw [Bool.eq_iff_iff]; simp)
theorem good_pure : PureOk Try.prog 18 (argM (cSl (rI .i64)) fun l => finM (if l.length ≤ 4294967296 then some (.v (.bool (l.all (· == 0)))) else none)) := by
  refine pure1 Try.func18 rfl ?_
  rintro l r hr
  by_cases hc : l.length ≤ 4294967296
  case neg => rw [if_neg hc] at hr; cases hr
  rw [if_pos hc] at hr
  simp only [Option.some.injEq] at hr
  subst hr
  refine body_gen (noOrc_ok.withP goodAny_pure) fxMix (by kernel_rfl) (by simp [Try.ntmps18]) ?_
  intro C cP cI cN cD cF cA
  have cp0 := orcP goodAny_pure (C := C) (by rw [cP]; rfl)
  replace cI : C.inl = fun _ => false := cI
  replace cD : C.dyn = fun _ => [] := cD
  clear cP cN cF cA
  simp [Try.ntmps18, Try.results18, cSl, cp0, cI, cD, rI, hc] <;> (rw [Bool.eq_iff_iff]; simp)
theorem rmEqual_pure : PureOk Try.prog 24 (argM (cSl rRm) fun l => argM (cSl rRm) fun m => finM (if l.length ≤ 4294967296 then some (.v (.bool (decide (l = m)))) else none)) := by
  refine pure2 Try.func24 rfl ?_
  rintro l m r hr
  by_cases hc : l.length ≤ 4294967296
  case neg => rw [if_neg hc] at hr; cases hr
  rw [if_pos hc] at hr
  simp only [Option.some.injEq] at hr
  subst hr
  refine body_gen noOrc_ok fxMix (by kernel_rfl) (by simp [Try.ntmps24]) ?_
  intro C cP cI cN cD cF cA
  replace cI : C.inl = fun _ => false := cI
  replace cD : C.dyn = fun _ => [] := cD
  clear cP cN cF cA
  simp [Try.ntmps24, Try.results24, cSl, cI, cD, rRm, Rm.row]
  split
  · rename_i hn
    have hn : l.length = m.length := by omega
    refine loop_for l.length (fun k (_ : Unit) => ([(0, .fsl false 2 (l.map Rm.row)), (1, .fsl false 2 (m.map Rm.row)), (12, .v (.int .i64 l.length)), (13, .v (.int .i64 k))], [])) (fun k _ => l.drop k = m.drop k ↔ l = m) () hc (by simp) (by simp) ?_ ?_
    · intro k _ hk hall hw
      have hk3 : k < m.length := by omega
      rw [List.drop_eq_getElem_cons hk, List.drop_eq_getElem_cons hk3, List.cons.injEq] at hall
      have he := rm_eq l[k] m[k]
      by_cases q2 : l[k] = m[k]
      · have q3 := he.1 q2
        clear he
        simp only [q2, true_and] at hall
        simp [Try.ntmps24, Try.results24, cSl, cI, cD, hk, hk3, hw, rRm, Rm.row, q3]
        exact hall
      · have hne : ¬ l = m := fun h => q2 (hall.2 h).1
        simp [Try.ntmps24, Try.results24, cSl, cI, cD, hk, hk3, hw, rRm, Rm.row]
        split
        · exact hne
        · rename_i q
          exact absurd (he.2 (by simp_all)) q2
    · intro _ hall
      simp [hn] at hall
      simp [Try.ntmps24, Try.results24, cSl, cI, cD, hall]
  · rename_i hn
    rintro rfl
    exact hn rfl
theorem twins_pure : PureOk Try.prog 23 ( finM (some (.v (.bool true)))) := by
  refine pure0 Try.func23 rfl ?_
  rintro  r hr
  simp only [Option.some.injEq] at hr
  subst hr
  refine body_gen (noOrc_ok.withP twMost_pure) fxMix (by kernel_rfl) (by simp [Try.ntmps23]) ?_
  intro C cP cI cN cD cF cA
  have cp0 := orcP twMost_pure (C := C) (by rw [cP]; rfl)
  replace cI : C.inl = fun _ => false := cI
  replace cD : C.dyn = fun _ => [] := cD
  clear cP cN cF cA
  have h1 : twCheck ⟨2, [⟨0, 2⟩]⟩ = 0 := by decide +kernel
  have h2 : maxO [⟨0, 2⟩] = 2 := by decide
  have h3 : sumP [⟨0, 2⟩] = 4 := by decide
  simp [Try.ntmps23, Try.results23, cSl, cp0, cI, cD, rTwn, twnDec, rRm, Rm.row, Twn.row, rmDec, h1, h2, h3]
theorem off_cov {N : Int} {l : List Rm} {r : Rm} (h : Okl N l) (hr : Fit N r) : Off l r ↔ ∀ q, r.has q → ¬ Cov l q := by
  have hl := hr.lt
  constructor
  · rintro ho q hq ⟨x, hx, hq2⟩
    have := ho x hx
    simp only [Rm.has] at hq hq2
    omega
  · intro hq x hx
    have fx := (h.1 x hx).lt
    by_cases c : x.end_ ≤ r.at_ ∨ r.end_ ≤ x.at_
    · exact c
    · exact absurd ⟨x, hx, by simp only [Rm.has]; omega⟩ (hq (max r.at_ x.at_) (by simp only [Rm.has]; omega))
structure Tkn (t t' : Twn) (a o : Int) : Prop where
  ck : twCheck t = 0
  o0 : 0 ≤ o
  oN : o ≤ t.order
  ord : t'.order = t.order
  ok' : Okl t.order t'.free
  fit : Fit t.order ⟨a, o⟩
  cov : ∀ q, Cov t'.free q ↔ Cov t.free q ∧ ¬ (⟨a, o⟩ : Rm).has q
  was : ∀ q, (⟨a, o⟩ : Rm).has q → Cov t.free q
theorem take_full {t t' : Twn} {o a : Int} (h : twTake t o = .ok (t', a)) : Tkn t t' a o := by
  unfold twTake at h
  split at h
  · rename_i hck
    obtain ⟨g1, g2, g3⟩ := twCheck_ok.1 hck
    split at h
    · cases h
    · rename_i ho
      split at h
      · cases h
      · rename_i hb
        rcases bestGo_ok t.free o t.free.length (Nat.le_refl _) with ⟨h1, _⟩ | ⟨n, r, h1, h2, h3, h4⟩
        · omega
        · rw [h1] at h
          simp only [Int.toNat_natCast, h3] at h
          simp only [Except.ok.injEq, Prod.mk.injEq] at h
          obtain ⟨rfl, rfl⟩ := h
          have hn : t.free[n] = r := by have := List.getElem?_eq_getElem h2; rw [this] at h3; simpa using h3
          have hsplit : t.free = t.free.take n ++ r :: t.free.drop (n + 1) := by
            rw [← hn, ← List.drop_eq_getElem_cons h2, List.take_append_drop]
          have fr : Fit t.order r := g3.1 r (by rw [← hn]; exact List.getElem_mem h2)
          have hk : Okl t.order (t.free.take n ++ r :: t.free.drop (n + 1)) := by rw [← hsplit]; exact g3
          obtain ⟨k1, k2, k3⟩ := take_ok (o := o) hk (by omega) h4
          rw [← hsplit] at k2 k3
          refine ⟨hck, by omega, by omega, rfl, k1, ⟨by simp; omega, by simp; omega, fr.2.2.1, ?_, Int.dvd_trans (pw_dvd h4) fr.2.2.2.2⟩, ?_, ?_⟩
          · have := fr.2.2.2.1
            have := pw_le h4
            simp only [Rm.end_] at *
            omega
          · intro q; rw [k2]; rfl
          · intro q hq; exact k3 q hq
  · cases h
theorem take_err {t : Twn} {o e : Int} (h : twTake t o = .error e) : ¬ e = 0 := by
  unfold twTake at h
  split at h
  · split at h
    · simp at h; omega
    · split at h
      · simp at h; omega
      · split at h
        · cases h
        · simp at h; omega
  · simp at h; omega
theorem give_err {t : Twn} {a o e : Int} (h : twGive t a o = .error e) : ¬ e = 0 := by
  unfold twGive at h
  split at h
  · split at h
    · cases h
    · simp at h; omega
  · simp at h; omega
structure Gvn (t t' : Twn) (a o : Int) : Prop where
  ck : twCheck t = 0
  ord : t'.order = t.order
  fit : Fit t.order ⟨a, o⟩
  off : Off t.free ⟨a, o⟩
  ok' : Okl t.order t'.free
  cov : ∀ q, Cov t'.free q ↔ (⟨a, o⟩ : Rm).has q ∨ Cov t.free q
theorem give_full {t t' : Twn} {o a : Int} (h : twGive t a o = .ok t') : Gvn t t' a o := by
  unfold twGive at h
  split at h
  · rename_i hck
    obtain ⟨g1, g2, g3⟩ := twCheck_ok.1 hck
    split at h
    · rename_i hap
      obtain ⟨f, ho⟩ := apartB_iff.1 hap
      simp only [Except.ok.injEq] at h
      subst h
      obtain ⟨k1, k2⟩ := giveGo_ok (N := t.order) (bud := twBud) (fun x r hx hr => twBud_iff g2 hx hr) _ ⟨a, o⟩ t.free g3 f ho rfl
      exact ⟨hck, rfl, f, ho, k1, k2⟩
    · cases h
  · cases h
theorem give_some {t : Twn} {o a : Int} (hck : twCheck t = 0) (f : Fit t.order ⟨a, o⟩) (ho : Off t.free ⟨a, o⟩) : ∃ t', twGive t a o = .ok t' := by
  unfold twGive
  rw [if_pos hck, if_pos (apartB_iff.2 ⟨f, ho⟩)]
  exact ⟨_, rfl⟩
theorem give_none {t : Twn} {o a : Int} (hck : twCheck t = 0) (f : Fit t.order ⟨a, o⟩) (ho : ¬ Off t.free ⟨a, o⟩) : twGive t a o = .error 1 := by
  unfold twGive
  rw [if_pos hck, if_neg (fun h => ho (apartB_iff.1 h).2)]
theorem check_of {t t' : Twn} (hck : twCheck t = 0) (ho : t'.order = t.order) (hk : Okl t.order t'.free) : twCheck t' = 0 := by
  obtain ⟨g1, g2, g3⟩ := twCheck_ok.1 hck
  exact twCheck_ok.2 ⟨by omega, by omega, by rw [ho]; exact hk⟩

theorem back_pure : PureOk Try.prog 11 (argM (cAgg rTwn) fun t => argM (cInt .i64) fun o => finM (some (.v (.bool true)))) := by
  refine pure2 Try.func11 rfl ?_
  rintro t o r hr
  simp only [Option.some.injEq] at hr
  subst hr
  refine body_gen ((((noOrc_ok.withP twTake_pure).withP twins_pure).withP twGive_pure).withP rmEqual_pure) fxMix (by kernel_rfl) (by simp [Try.ntmps11]) ?_
  intro C cP cI cN cD cF cA
  have cp0 := orcP twTake_pure (C := C) (by rw [cP]; rfl)
  have cp1 := orcP twins_pure (C := C) (by rw [cP]; rfl)
  have cp2 := orcP twGive_pure (C := C) (by rw [cP]; rfl)
  have cp3 := orcP rmEqual_pure (C := C) (by rw [cP]; rfl)
  replace cI : C.inl = fun _ => false := cI
  replace cD : C.dyn = fun _ => [] := cD
  clear cP cN cF cA
  obtain ⟨N, l⟩ := t
  cases h1 : twTake ⟨N, l⟩ o with
  | error e =>
    have he := take_err h1
    simp [Try.ntmps11, Try.results11, cSl, cp0, cp1, cp2, cp3, cI, cD, rTwn, twnDec, rRm, Twn.row, h1, takeE, he]
  | ok p =>
    obtain ⟨⟨N', l'⟩, a⟩ := p
    have k := take_full h1
    have g := twCheck_ok.1 k.ck
    have hck' := check_of k.ck k.ord k.ok'
    have ho : Off l' ⟨a, o⟩ := (off_cov k.ok' k.fit).2 fun q hq hc => ((k.cov q).1 hc).2 hq
    have hN := k.ord
    simp only at hN g
    subst hN
    obtain ⟨⟨N2, l2⟩, h2⟩ := give_some (t := ⟨N', l'⟩) (a := a) (o := o) hck' k.fit ho
    have k2 := give_full h2
    have hN2 := k2.ord
    simp only at hN2
    subst hN2
    have hl : l2 = l := tw_one k2.ok' g.2.2 fun q => by
      have c1 := k2.cov q
      have c2 := k.cov q
      have c3 := k.was q
      simp only at c1 c2 c3
      rw [c1, c2]
      constructor
      · rintro (h | h)
        · exact c3 h
        · exact h.1
      · intro h
        by_cases hq : (⟨a, o⟩ : Rm).has q
        · exact .inl hq
        · exact .inr ⟨h, hq⟩
    subst hl
    have hlen := okl_len g.2.1 g.2.2
    have hlen2 : l2.length ≤ 4294967296 := by omega
    simp [Try.ntmps11, Try.results11, cSl, cp0, cp1, cp2, cp3, cI, cD, rTwn, twnDec, rRm, Twn.row, Twn.hrow, h1, h2, takeE, twE, hlen2]
theorem two_pure : PureOk Try.prog 8 (argM (cAgg rTwn) fun t => argM (cInt .i64) fun a => argM (cInt .i64) fun j => argM (cInt .i64) fun b => argM (cInt .i64) fun k => finM (some (.v (.bool true)))) := by
  refine pure5 Try.func8 rfl ?_
  rintro t a j b k r hr
  simp only [Option.some.injEq] at hr
  subst hr
  refine body_gen ((((noOrc_ok.withP twGive_pure).withP twins_pure).withP good_pure).withP rmEqual_pure) fxMix (by kernel_rfl) (by simp [Try.ntmps8]) ?_
  intro C cP cI cN cD cF cA
  have cp0 := orcP twGive_pure (C := C) (by rw [cP]; rfl)
  have cp1 := orcP twins_pure (C := C) (by rw [cP]; rfl)
  have cp2 := orcP good_pure (C := C) (by rw [cP]; rfl)
  have cp3 := orcP rmEqual_pure (C := C) (by rw [cP]; rfl)
  replace cI : C.inl = fun _ => false := cI
  replace cD : C.dyn = fun _ => [] := cD
  clear cP cN cF cA
  obtain ⟨N, l⟩ := t
  cases h1 : twGive ⟨N, l⟩ a j with
  | error e =>
    have he := give_err h1
    cases h2 : twGive ⟨N, l⟩ b k with
    | error f => simp [Try.ntmps8, Try.results8, cSl, cp0, cp1, cp2, cp3, cI, cD, rTwn, twnDec, rRm, Twn.row, h1, h2, twE, he, rI, irow, irowDec]
    | ok y => simp [Try.ntmps8, Try.results8, cSl, cp0, cp1, cp2, cp3, cI, cD, rTwn, twnDec, rRm, Twn.row, Twn.hrow, h1, h2, twE, he, rI, irow, irowDec]
  | ok x =>
    cases h2 : twGive ⟨N, l⟩ b k with
    | error f =>
      have he := give_err h2
      simp [Try.ntmps8, Try.results8, cSl, cp0, cp1, cp2, cp3, cI, cD, rTwn, twnDec, rRm, Twn.row, Twn.hrow, h1, h2, twE, he, rI, irow, irowDec]
    | ok y =>
      obtain ⟨N1, l1⟩ := x
      obtain ⟨N2, l2⟩ := y
      have k1 := give_full h1
      have k2 := give_full h2
      have g := twCheck_ok.1 k1.ck
      have e1 := k1.ord
      have e2 := k2.ord
      simp only at e1 e2 g
      subst e1
      subst e2
      have c1 := check_of k1.ck k1.ord k1.ok'
      have c2 := check_of k2.ck k2.ord k2.ok'
      have f1 := k1.fit
      have f2 := k2.fit
      have o1 := k1.off
      have o2 := k2.off
      have v1 := k1.cov
      have v2 := k2.cov
      have q1 := (off_cov g.2.2 f1).1 o1
      have q2 := (off_cov g.2.2 f2).1 o2
      simp only at f1 f2 o1 o2 v1 v2 q1 q2
      have hoff1 : Off l1 ⟨b, k⟩ ↔ ∀ q, (⟨a, j⟩ : Rm).has q → ¬ (⟨b, k⟩ : Rm).has q := by
        rw [off_cov k1.ok' f2]
        constructor
        · intro h q h3 h4; exact h q h4 ((v1 q).2 (.inl h3))
        · intro h q h3 h4
          rcases (v1 q).1 h4 with h5 | h5
          · exact h q h5 h3
          · exact q2 q h3 h5
      have hoff2 : Off l2 ⟨a, j⟩ ↔ ∀ q, (⟨a, j⟩ : Rm).has q → ¬ (⟨b, k⟩ : Rm).has q := by
        rw [off_cov k2.ok' f1]
        constructor
        · intro h q h3 h4; exact h q h3 ((v2 q).2 (.inl h4))
        · intro h q h3 h4
          rcases (v2 q).1 h4 with h5 | h5
          · exact h q h3 h5
          · exact q1 q h3 h5
      by_cases hd : ∀ q, (⟨a, j⟩ : Rm).has q → ¬ (⟨b, k⟩ : Rm).has q
      · obtain ⟨⟨N3, l3⟩, h3⟩ := give_some c1 f2 (hoff1.2 hd)
        obtain ⟨⟨N4, l4⟩, h4⟩ := give_some c2 f1 (hoff2.2 hd)
        have k3 := give_full h3
        have k4 := give_full h4
        have e3 := k3.ord
        have e4 := k4.ord
        simp only at e3 e4
        subst e3
        subst e4
        have hl : l3 = l4 := tw_one k3.ok' k4.ok' fun q => by
          have w3 := k3.cov q
          have w4 := k4.cov q
          simp only at w3 w4
          rw [w3, w4, v1, v2]
          constructor
          · rintro (h | h | h)
            · exact .inr (.inl h)
            · exact .inl h
            · exact .inr (.inr h)
          · rintro (h | h | h)
            · exact .inr (.inl h)
            · exact .inl h
            · exact .inr (.inr h)
        subst hl
        have hlen := okl_len g.2.1 k3.ok'
        simp only at hlen
        have hlen2 : l3.length ≤ 4294967296 := by omega
        simp [Try.ntmps8, Try.results8, cSl, cp0, cp1, cp2, cp3, cI, cD, rTwn, twnDec, rRm, Twn.row, Twn.hrow, h1, h2, h3, h4, twE, rI, irow, irowDec, hlen2]
      · have h3 := give_none c1 f2 (fun h => hd (hoff1.1 h))
        have h4 := give_none c2 f1 (fun h => hd (hoff2.1 h))
        simp [Try.ntmps8, Try.results8, cSl, cp0, cp1, cp2, cp3, cI, cD, rTwn, twnDec, rRm, Twn.row, Twn.hrow, h1, h2, h3, h4, twE, rI, irow, irowDec]
end Go.Proofs.Ytjohjiphjmcolaa
