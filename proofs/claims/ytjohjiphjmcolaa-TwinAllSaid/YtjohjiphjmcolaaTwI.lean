/- The law TwinAll returns true. -/
import Derived.Test.YtjohjiphjmcolaaTwG
namespace Go.Proofs.Ytjohjiphjmcolaa
open Go.AI
set_option maxHeartbeats 2000000
set_option maxRecDepth 100000
set_option linter.unusedSimpArgs false
set_option linter.unusedVariables false
attribute [local simp] wpA wpX RunA RunD runF foot footP footB idsA bare apart runL step1 gsel_f gsel_t gsel_s res_same res_and1 res_and2 res_and3 res_and4 res_and5 res_and6 res_false res_true res_v res_ptr res_fptr res_osl res_xsl soft aAppendZ aCap ovlI ovlJ res_fsl res_esl res_agg res_tup res_fn res_junk res_anyb aPick hk imp_left iteV dstOk guardOk astep astepE AI.ev AI.look AI.put envOf aBox cellsOf allOne allOneA oneA Value.oneCell' Value.cells newObj' aFieldAddr aLoad obj readAt thenA blockA condA retA resA tupA view hot hotC hotR depthV cAgg cInt cBool mkAgg allV aAlloc aBuild fillA writeAt aStore isAggA aField idx aIndexAddr aIndex bnd aSlice aExtract aLen aBuiltin aCall isStatic eqAgg eqTy eqC ev_add ev_sub ev_mul ev_quo ev_rem ev_and ev_or ev_xor ev_andNot ev_shl ev_shr ev_eql ev_neq ev_lss ev_leq ev_gtr ev_geq ev_agg w64 wu32 wu8 ev_not ev_neg Cod.plain RCod.plain argM finM cold coldC coldR goInt intDec boolDec aggDec Weaker heapW lowA lowC Again slDec undef aBuildSlice setRows aAppend rowsOf aMakeSlice aClear aCopy softer_self softer_nil valsOf ev_min2 ev_max2 hotR_set hotR_append take_map_set irow_cold irow_mapM irow_mapMc irow_view irow_viewc irow_hotR irow_ren irow_renc irow_low WeakT heapT thOf ren renC AgainT NextF NextT fnDec cFn rNil selfLt natLt0 natLt1 getLastMap frame0 frame1 own0 own1 argG finG tau tauI tauO tauC bareA bareC bareH irow_tau irow_tauc irow_bare irow_flat irow_bareR ownA_nil ownT_nil ownA_c ownT_c ownA_s ownT_s takeMapLen footC plainA noId noIdC cloneF frame0F frame1F insertF replaceI replaceF cellDec rCell fpDec cFp rTwo deleteF RunR RunE runFT footAt hotR_cat tmodN fxSz2 fxBy2 fxAg2 fxZe2 fxSl2 fxAr2 fxPl2 fxSz3 fxBy3 fxAg3 fxZe3 fxSl3 fxAr3 fxPl3 fxSz4 fxBy4 fxAg4 fxZe4 fxSl4 fxAr4 fxPl4 fxSz5 fxBy5 fxAg5 fxZe5 fxSl5 fxAr5 fxPl5 fxSz9 fxBy9 fxAg9 fxZe9 fxSl9 fxAr9 fxPl9 fxSz12 fxBy12 fxAg12 fxZe12 fxSl12 fxAr12 fxPl12 fxSz13 fxBy13 fxAg13 fxZe13 fxSl13 fxAr13 fxFi13x0 fxFi13x1 fxPl13 fxSz21 fxBy21 fxAg21 fxZe21 fxSl21 fxAr21 fxPl21 fxSz22 fxBy22 fxAg22 fxZe22 fxSl22 fxAr22 fxPl22 fxSz23 fxBy23 fxAg23 fxZe23 fxSl23 fxAr23 fxFi23x0 fxFi23x1 fxFi23x2 fxPl23 fxSz24 fxBy24 fxAg24 fxZe24 fxSl24 fxAr24 fxFi24x0 fxFi24x1 fxFi24x2 fxPl24 fxSz25 fxBy25 fxAg25 fxZe25 fxSl25 fxAr25 fxPl25 fxSz42 fxBy42 fxAg42 fxZe42 fxSl42 fxAr42 fxPl42 fxSz43 fxBy43 fxAg43 fxZe43 fxSl43 fxAr43 fxFi43x0 fxFi43x1 fxPl43 fxSz44 fxBy44 fxAg44 fxZe44 fxSl44 fxAr44 fxFi44x0 fxFi44x1 fxPl44 fxSz48 fxBy48 fxAg48 fxZe48 fxSl48 fxAr48 fxFi48x0 fxFi48x1 fxPl48 fxSz49 fxBy49 fxAg49 fxZe49 fxSl49 fxAr49 fxFi49x0 fxFi49x1 fxPl49 fxSz53 fxBy53 fxAg53 fxZe53 fxSl53 fxAr53 fxPl53 fxSz59 fxBy59 fxAg59 fxZe59 fxSl59 fxAr59 fxPl59 fxSz68 fxBy68 fxAg68 fxZe68 fxSl68 fxAr68 fxPl68 fxSz85 fxBy85 fxAg85 fxZe85 fxSl85 fxAr85 fxPl85 fxSz91 fxBy91 fxAg91 fxZe91 fxSl91 fxAr91 fxPl91 fxSz92 fxBy92 fxAg92 fxZe92 fxSl92 fxAr92 fxFi92x0 fxPl92 fxSz95 fxBy95 fxAg95 fxZe95 fxSl95 fxAr95 fxPl95 fxSz99 fxBy99 fxAg99 fxZe99 fxSl99 fxAr99 fxPl99 fxSz104 fxBy104 fxAg104 fxZe104 fxSl104 fxAr104 fxPl104 fxEq24 fxEq49 fxEq53 fxCv2x2 fxCv2x3 fxCv2x5 fxCv2x12 fxCv2x21 fxCv2x25 fxCv2x95 fxCv3x2 fxCv3x3 fxCv3x5 fxCv3x12 fxCv3x21 fxCv3x25 fxCv3x95 fxCv5x2 fxCv5x3 fxCv5x5 fxCv5x12 fxCv5x21 fxCv5x25 fxCv5x95 fxCv12x2 fxCv12x3 fxCv12x5 fxCv12x12 fxCv12x21 fxCv12x25 fxCv12x95 fxCv21x2 fxCv21x3 fxCv21x5 fxCv21x12 fxCv21x21 fxCv21x25 fxCv21x95 fxCv25x2 fxCv25x3 fxCv25x5 fxCv25x12 fxCv25x21 fxCv25x25 fxCv25x95 fxCv95x2 fxCv95x3 fxCv95x5 fxCv95x12 fxCv95x21 fxCv95x25 fxCv95x95 fxEb4 fxNb4 fxLt9 fxLn22 fxNe22 fxNn22 fxLn42 fxNe42 fxNn42 fxLn59 fxNe59 fxNn59 fxLn68 fxNe68 fxNn68 fxFn3 fxFm3 fxFb3 fxFi3 fxFj3 fxFn4 fxFm4 fxFb4 fxFi4 fxFj4 fxFn5 fxFm5 fxFb5 fxFi5 fxFj5 fxFn6 fxFm6 fxFb6 fxFi6 fxFj6 fxFn7 fxFm7 fxFb7 fxFi7 fxFj7 fxFn8 fxFm8 fxFb8 fxFi8 fxFj8 fxFn9 fxFm9 fxFb9 fxFi9 fxFj9 fxFn10 fxFm10 fxFb10 fxFi10 fxFj10 fxFn11 fxFm11 fxFb11 fxFi11 fxFj11 fxFn12 fxFm12 fxFb12 fxFi12 fxFj12 fxFn13 fxFm13 fxFb13 fxFi13 fxFj13 fxFn14 fxFm14 fxFb14 fxFi14 fxFj14 fxFn15 fxFm15 fxFb15 fxFi15 fxFj15 fxFn16 fxFm16 fxFb16 fxFi16 fxFj16 fxFn17 fxFm17 fxFb17 fxFi17 fxFj17 fxFn18 fxFm18 fxFb18 fxFi18 fxFj18 fxFn19 fxFm19 fxFb19 fxFi19 fxFj19 fxFn20 fxFm20 fxFb20 fxFi20 fxFj20 fxFn21 fxFm21 fxFb21 fxFi21 fxFj21 fxFn22 fxFm22 fxFb22 fxFi22 fxFj22 fxFn23 fxFm23 fxFb23 fxFi23 fxFj23 fxFn24 fxFm24 fxFb24 fxFi24 fxFj24 fxFn25 fxFm25 fxFb25 fxFi25 fxFj25 fxFn26 fxFm26 fxFb26 fxFi26 fxFj26 fxFn27 fxFm27 fxFb27 fxFi27 fxFj27 fxFn28 fxFm28 fxFb28 fxFi28 fxFj28 fxFn29 fxFm29 fxFb29 fxFi29 fxFj29 fxFn30 fxFm30 fxFb30 fxFi30 fxFj30 fxFn31 fxFm31 fxFb31 fxFi31 fxFj31 fxFn32 fxFm32 fxFb32 fxFi32 fxFj32 fxFn33 fxFm33 fxFb33 fxFi33 fxFj33 fxFn34 fxFm34 fxFb34 fxFi34 fxFj34 fxFn35 fxFm35 fxFb35 fxFi35 fxFj35 fxFn36 fxFm36 fxFb36 fxFi36 fxFj36 fxFn37 fxFm37 fxFb37 fxFi37 fxFj37 fxFn38 fxFm38 fxFb38 fxFi38 fxFj38 fxFn39 fxFm39 fxFb39 fxFi39 fxFj39 fxFn40 fxFm40 fxFb40 fxFi40 fxFj40 fxFn41 fxFm41 fxFb41 fxFi41 fxFj41 fxFn42 fxFm42 fxFb42 fxFi42 fxFj42 fxFn43 fxFm43 fxFb43 fxFi43 fxFj43 fxFn44 fxFm44 fxFb44 fxFi44 fxFj44 fxFn45 fxFm45 fxFb45 fxFi45 fxFj45 fxFn46 fxFm46 fxFb46 fxFi46 fxFj46 fxFn47 fxFm47 fxFb47 fxFi47 fxFj47 fxFn48 fxFm48 fxFb48 fxFi48 fxFj48 fxFn49 fxFm49 fxFb49 fxFi49 fxFj49 fxFn50 fxFm50 fxFn51 fxFm51 fxFb51 fxFi51 fxFj51 fxFn52 fxFm52 fxFb52 fxFi52 fxFj52 fxFn53 fxFm53 fxFn54 fxFm54 fxFb54 fxFi54 fxFj54 fxFn55 fxFm55 fxFb55 fxFi55 fxFj55 fxFn56 fxFm56 fxFb56 fxFi56 fxFj56 fxFn57 fxFm57 fxFb57 fxFi57 fxFj57 fxFn58 fxFm58 fxFb58 fxFi58 fxFj58
attribute [local simp] Rm.eta Rm.cold Rm.mapM Rm.mapMc Rm.view Rm.viewc Rm.hotR Rm.ren Rm.renc Rm.low Rm.tau Rm.tauc Rm.bare Rm.flat Rm.flat1 Rm.mapMt Rm.mapMd Rm.coldt Rm.coldd Rm.hotRt Rm.hotRd
attribute [local simp] Twn.eta Twn.dec_row Twn.dec_hrow Twn.cold Twn.hcold Twn.mapM Twn.mapMc Twn.hmapM Twn.hmapMc Twn.view Twn.viewc Twn.hview Twn.hviewc Twn.hotR Twn.ren Twn.renc Twn.low
structure AllInv (N : Int) (t : Twn) (rooms : List Rm) : Prop where
  ck : twCheck t = 0
  ord : t.order = N
  fit : ∀ r ∈ rooms, Fit N r
  dis : rooms.Pairwise fun a b => ∀ q, a.has q → ¬ b.has q
  off : ∀ r ∈ rooms, ∀ q, r.has q → ¬ Cov t.free q
  cov : ∀ q, (0 ≤ q ∧ q < pw N) ↔ Cov t.free q ∨ Cov rooms q
theorem full_fit {N : Int} (h : 0 ≤ N) : Fit N ⟨0, N⟩ := ⟨h, Int.le_refl _, Int.le_refl _, by simp [Rm.end_], Int.dvd_zero _⟩
theorem inv_new {o : Int} (h0 : ¬ o < 0) (h6 : ¬ 6 < o) : AllInv o ⟨o, [⟨0, o⟩]⟩ [] := by
  refine ⟨twCheck_ok.2 ⟨by simp only; omega, by simp only; omega, okl_cons.2 ⟨full_fit (N := o) (by omega), by simp, ⟨by simp, by simp⟩⟩⟩, rfl, by simp, by simp, by simp, fun q => ?_⟩
  rw [cov_cons]
  simp [Rm.has, Rm.end_, cov_nil]
theorem inv_take {N k a : Int} {t t' : Twn} {rooms : List Rm} (h : AllInv N t rooms) (ht : twTake t k = .ok (t', a)) : AllInv N t' (rooms ++ [⟨a, k⟩]) := by
  have kn := take_full ht
  have ho := h.ord
  refine ⟨check_of kn.ck kn.ord kn.ok', kn.ord.trans ho, ?_, ?_, ?_, fun q => ?_⟩
  · intro r hr
    rcases List.mem_append.1 hr with hr | hr
    · exact h.fit r hr
    · simp at hr; subst hr; rw [← ho]; exact kn.fit
  · rw [List.pairwise_append]
    refine ⟨h.dis, by simp, fun x hx y hy q h1 h2 => ?_⟩
    simp at hy; subst hy
    exact h.off x hx q h1 (kn.was q h2)
  · intro r hr q h1 h2
    have h3 := (kn.cov q).1 h2
    rcases List.mem_append.1 hr with hr | hr
    · exact h.off r hr q h1 h3.1
    · simp at hr; subst hr; exact h3.2 h1
  · rw [h.cov, kn.cov, cov_append, cov_cons]
    constructor
    · rintro (h1 | h1)
      · by_cases h2 : (⟨a, k⟩ : Rm).has q
        · exact .inr (.inr (.inl h2))
        · exact .inl ⟨h1, h2⟩
      · exact .inr (.inl h1)
    · rintro (h1 | h1 | h1 | h1)
      · exact .inl h1.1
      · exact .inr h1
      · exact .inl (kn.was q h1)
      · exact absurd h1 cov_nil
theorem inv_give {N : Int} {t : Twn} {rooms : List Rm} (h : AllInv N t rooms) {j : Nat} (hj : j < rooms.length) : ∃ t', twGive t rooms[j].at_ rooms[j].order = .ok t' ∧ AllInv N t' (rooms.eraseIdx j) := by
  have hmem := List.getElem_mem hj
  have g := (twCheck_ok.1 h.ck).2.2
  have hf : Fit t.order ⟨rooms[j].at_, rooms[j].order⟩ := by rw [h.ord]; exact h.fit _ hmem
  obtain ⟨t', ht⟩ := give_some (a := rooms[j].at_) (o := rooms[j].order) h.ck hf ((off_cov g hf).2 (h.off _ hmem))
  have kg := give_full ht
  have hsub : (rooms.eraseIdx j).Sublist rooms := List.eraseIdx_sublist ..
  have hdis : ∀ y ∈ rooms.eraseIdx j, ∀ q, y.has q → ¬ rooms[j].has q := by
    intro y hy q h1 h2
    rw [List.mem_eraseIdx_iff_getElem] at hy
    obtain ⟨i, hi, hne, rfl⟩ := hy
    have hp := List.pairwise_iff_getElem.1 h.dis
    rcases Nat.lt_or_gt_of_ne hne with c | c
    · exact hp _ _ hi hj c q h1 h2
    · exact hp _ _ hj hi c q h2 h1
  refine ⟨t', ht, check_of kg.ck kg.ord kg.ok', kg.ord.trans h.ord, fun r hr => h.fit r (hsub.subset hr), h.dis.sublist hsub, ?_, fun q => ?_⟩
  · intro r hr q h1 h2
    rcases (kg.cov q).1 h2 with h3 | h3
    · exact hdis r hr q h1 h3
    · exact h.off r (hsub.subset hr) q h1 h3
  · rw [h.cov, kg.cov]
    have hc : Cov rooms q ↔ rooms[j].has q ∨ Cov (rooms.eraseIdx j) q := by
      constructor
      · rintro ⟨y, hy, k⟩
        obtain ⟨i, hi, rfl⟩ := List.getElem_of_mem hy
        by_cases hji : i = j
        · subst hji; exact .inl k
        · exact .inr ⟨_, List.mem_eraseIdx_iff_getElem.2 ⟨i, hi, hji, rfl⟩, k⟩
      · rintro (k | ⟨y, hy, k⟩)
        · exact ⟨_, hmem, k⟩
        · exact ⟨y, hsub.subset hy, k⟩
    rw [hc]
    constructor
    · rintro (h1 | h1 | h1)
      · exact .inl (.inr h1)
      · exact .inl (.inl h1)
      · exact .inr h1
    · rintro ((h1 | h1) | h1)
      · exact .inr (.inl h1)
      · exact .inl h1
      · exact .inr (.inr h1)
theorem inv_end {N : Int} {t : Twn} (h : AllInv N t []) : t.free = [⟨0, N⟩] := by
  obtain ⟨g1, g2, g3⟩ := twCheck_ok.1 h.ck
  rw [h.ord] at g1 g2 g3
  refine tw_one g3 (okl_cons.2 ⟨full_fit g1, by simp, ⟨by simp, by simp⟩⟩) fun q => ?_
  have := h.cov q
  rw [cov_cons]
  simp only [cov_nil, or_false] at this ⊢
  rw [← this]
  simp [Rm.has, Rm.end_]
def pickN (x : Int) (n : Nat) : Nat := ((x.tmod n + n).tmod n).toNat
theorem pickN_ok (x : Int) {n : Nat} (hn : 0 < n) : pickN x n < n ∧ (x.tmod n + n).tmod n = (pickN x n : Int) ∧ -(n : Int) < x.tmod n ∧ x.tmod n < n := by
  have hp : (0 : Int) < n := by omega
  have h1 : x.tmod n < n := Int.tmod_lt_of_pos x hp
  have h2 : -(n : Int) < x.tmod n := Int.lt_tmod_of_pos x hp
  have h3 : (x.tmod n + n).tmod n < n := Int.tmod_lt_of_pos _ hp
  have h4 : 0 ≤ (x.tmod n + n).tmod n := Int.tmod_nonneg _ (by omega)
  unfold pickN
  omega
theorem all_pure : PureOk Try.prog 12 (argM (cInt .i64) fun o => argM (cSl (rI .i64)) fun sizes => argM (cSl (rI .i64)) fun back => finM (some (.v (.bool true)))) := by
  refine pure3 Try.func12 rfl ?_
  rintro o sizes back r hr
  simp only [Option.some.injEq] at hr
  subst hr
  refine body_gen (((((((noOrc_ok.withP twNew_pure).withP twins_pure).withP twTake_pure).withP twGive_pure).withP rmEqual_pure).withIF rmDel delete_loc).withD (fun i => if i = 11 then [(0,5),(0,6)] else if i = 19 then [(0,15),(5,15),(10,15),(11,15)] else if i = 22 then [(0,5)] else [])) fxMix (by kernel_rfl) (by simp [Try.ntmps12]) ?_
  intro C cP cI cN cD cF cA
  have cp0 := orcP twNew_pure (C := C) (by rw [cP]; rfl)
  have cp1 := orcP twins_pure (C := C) (by rw [cP]; rfl)
  have cp2 := orcP twTake_pure (C := C) (by rw [cP]; rfl)
  have cp3 := orcP twGive_pure (C := C) (by rw [cP]; rfl)
  have cp4 := orcP rmEqual_pure (C := C) (by rw [cP]; rfl)
  have cn0 := orcI rmDel (C := C) (by rw [cN]; rfl)
  replace cI := fun g => congrFun cI g
  simp only [Orc.withP, Orc.withI, Orc.withF, Orc.withD, Orc.withA, noOrc] at cI
  replace cD : C.dyn = fun i => if i = 11 then [(0,5),(0,6)] else if i = 19 then [(0,15),(5,15),(10,15),(11,15)] else if i = 22 then [(0,5)] else [] := cD
  replace cF := fun g => congrFun cF g
  simp only [Orc.withP, Orc.withI, Orc.withF, Orc.withD, Orc.withA, noOrc] at cF
  replace cA : C.alt = fun _ => [] := cA
  clear cP cN
  by_cases h0 : o < 0
  · have hn : twNew o = .error 1 := by unfold twNew; rw [if_pos (.inl h0)]
    simp [Try.ntmps12, Try.results12, cSl, cp0, cp1, cp2, cp3, cp4, cn0, cI, cD, cF, cA, rI, hn, twE]
  by_cases h6 : 6 < o
  · have hn : twNew o = .error 1 := by unfold twNew; rw [if_pos (.inr h6)]
    simp [Try.ntmps12, Try.results12, cSl, cp0, cp1, cp2, cp3, cp4, cn0, cI, cD, cF, cA, rI, hn, twE]
  have hn : twNew o = .ok ⟨o, [⟨0, o⟩]⟩ := by unfold twNew; rw [if_neg (by omega)]
  have hnew := inv_new h0 h6
  simp [Try.ntmps12, Try.results12, cSl, cp0, cp1, cp2, cp3, cp4, cn0, cI, cD, cF, cA, rI, hn, twE]
  refine loop_ren (σ := {p : Nat × Twn × List Rm // p.1 ≤ sizes.length ∧ p.1 ≤ 64 ∧ p.2.2.length ≤ p.1 ∧ AllInv o p.2.1 p.2.2}) (fun p => ([(0, .v (.int .i64 o)), (2, .fsl false 1 (back.map (irow .i64))), (7, .ptr 0 2 0 0), (9, ownA 1 2 (p.val.2.2.map Rm.row)), (37, .fsl false 1 (sizes.map (irow .i64))), (38, .v (.int .i64 sizes.length)), (39, .v (.int .i64 p.val.1))], [some (2, [p.val.2.1.hrow])] ++ ownT 2 (p.val.2.2.map Rm.row))) (fun p => 65 - p.val.1) ⟨(0, ⟨o, [⟨0, o⟩]⟩, []), Nat.zero_le _, by simp, by simp, hnew⟩ [0] (by simp [Twn.hrow, Rm.row, ownA_nil, ownT_nil]) ?_
  rintro ⟨⟨k, t, rooms⟩, i1, i2, i3, hinv⟩
  simp only at i1 i2 i3 hinv ⊢
  have hw : IntKind.i64.wrap ((k : Int) + 1) = ((k + 1 : Nat) : Int) := by rw [w64 (by omega) (by omega)]; simp
  obtain ⟨N', l'⟩ := t
  by_cases hks : k < sizes.length
  · by_cases hk64 : 64 ≤ k
    · have hk64' : (64 : Int) ≤ k := by omega
      simp [Try.ntmps12, Try.results12, cSl, cp0, cp1, cp2, cp3, cp4, cn0, cI, cD, cF, cA, hks, irow, hk64']
      have hi2 := hinv
      by_cases hro : rooms = []
      · subst hro
        have hend := inv_end hi2
        simp only at hend
        subst hend
        refine loop_rounds 1 ?_
        simp [Try.ntmps12, Try.results12, cSl, cp0, cp1, cp2, cp3, cp4, cn0, cI, cD, cF, cA, UnrK, Twn.hrow, rRm, Rm.row, rmDec]
      · have hrl : rooms.length ≤ 64 := by omega
        refine loop_inv (σ := {p : Nat × Twn × List Rm // p.1 + p.2.2.length ≤ 64 ∧ AllInv o p.2.1 p.2.2}) (fun p => ([(0, .v (.int .i64 o)), (2, .fsl false 1 (back.map (irow .i64))), (7, .ptr 0 2 0 0), (9, .osl 1 2 0 p.val.2.2.length p.val.2.2.length), (15, .v (.int .i64 p.val.1))], [some (2, [p.val.2.1.hrow]), some (2, p.val.2.2.map Rm.row)])) (fun p => p.val.2.2.length) ⟨(0, ⟨N', l'⟩, rooms), by simp; omega, hi2⟩ (by simp [Twn.hrow, ownA, ownT, hro]) ?_
        rintro ⟨⟨i, ⟨N2, l2⟩, rs⟩, j1, j2⟩
        simp only at j1 j2 ⊢
        have hw : IntKind.i64.wrap ((i : Int) + 1) = ((i + 1 : Nat) : Int) := by rw [w64 (by omega) (by omega)]; simp
        by_cases hrs : rs = []
        · subst hrs
          have hend := inv_end j2
          simp only at hend
          subst hend
          simp [Try.ntmps12, Try.results12, cSl, cp0, cp1, cp2, cp3, cp4, cn0, cI, cD, cF, cA, Twn.hrow, rRm, Rm.row, rmDec]
        · have hpos : 0 < rs.length := List.length_pos_iff.2 hrs
          have hl3 : rs.length ≤ 1048576 := by omega
          by_cases hib : i < back.length
          · obtain ⟨p1, p2, p3, p4⟩ := pickN_ok back[i] hpos
            generalize pickN back[i] rs.length = j at *
            obtain ⟨⟨N3, l3⟩, h3, j3⟩ := inv_give j2 p1
            have hne0 : ¬ (rs.length : Int) = 0 := by omega
            have hne1 : ¬ rs.length = 0 := by omega
            have w1 : IntKind.i64.wrap (back[i].tmod rs.length + rs.length) = back[i].tmod rs.length + rs.length := w64 (by omega) (by omega)
            have w2 : IntKind.i64.wrap ((j : Int) + 1) = (j : Int) + 1 := w64 (by omega) (by omega)
            have he : (rs.map Rm.row).eraseIdx j = (rs.eraseIdx j).map Rm.row := by rw [List.eraseIdx_eq_take_drop_succ, List.eraseIdx_eq_take_drop_succ]; simp
            have hle : (rs.eraseIdx j).length = rs.length - 1 := by rw [List.length_eraseIdx, if_pos p1]
            simp [Try.ntmps12, Try.results12, cSl, cp0, cp1, cp2, cp3, cp4, cn0, cI, cD, cF, cA, Twn.hrow, rTwn, twnDec, rRm, Rm.row, rmDec, hpos, hib, irow, hne0, hne1, w1, p2, p1, h3, twE, w2, deleteI, hl3, he, hw, hrs]
            exact ⟨i + 1, ⟨N3, l3⟩, rs.eraseIdx j, by omega, ⟨hle.symm, by simp⟩, ⟨rfl, rfl⟩, ⟨by omega, j3⟩, rfl⟩
          · obtain ⟨⟨N3, l3⟩, h3, j3⟩ := inv_give j2 hpos
            have he : (rs.map Rm.row).eraseIdx 0 = (rs.eraseIdx 0).map Rm.row := by rw [List.eraseIdx_eq_take_drop_succ, List.eraseIdx_eq_take_drop_succ]; simp
            have hle : (rs.eraseIdx 0).length = rs.length - 1 := by rw [List.length_eraseIdx, if_pos hpos]
            simp [Try.ntmps12, Try.results12, cSl, cp0, cp1, cp2, cp3, cp4, cn0, cI, cD, cF, cA, Twn.hrow, rTwn, twnDec, rRm, Rm.row, rmDec, hpos, hib, h3, twE, deleteI, hl3, he, hw, hrs]
            exact ⟨i + 1, ⟨N3, l3⟩, rs.eraseIdx 0, by omega, ⟨hle.symm, by simp⟩, ⟨rfl, rfl⟩, ⟨by omega, j3⟩, by rw [← he]; simp⟩
    · have hk64' : ¬ (64 : Int) ≤ k := by omega
      cases ht : twTake ⟨N', l'⟩ sizes[k] with
      | error e =>
        have he := take_err ht
        simp [Try.ntmps12, Try.results12, cSl, cp0, cp1, cp2, cp3, cp4, cn0, cI, cD, cF, cA, hks, irow, hk64', ht, takeE, he, Twn.hrow, rTwn, twnDec, rRm, hw]
        by_cases hro : rooms = []
        · subst hro
          exact ⟨k + 1, by omega, ⟨N', l'⟩, [], ⟨by omega, by omega, by simp, hinv⟩, [0], by simp [ownA_nil, ownT_nil]⟩
        · have o1 : ownA 1 2 (rooms.map Rm.row) = .osl 1 2 0 rooms.length rooms.length := by simp [ownA, hro]
          have o2 : ownT 2 (rooms.map Rm.row) = [some (2, rooms.map Rm.row)] := by simp [ownT, hro]
          exact ⟨k + 1, by omega, ⟨N', l'⟩, rooms, ⟨by omega, by omega, by omega, hinv⟩, [0, 1], by simp [o1, o2]⟩
      | ok p =>
        obtain ⟨⟨N2, l2⟩, a⟩ := p
        have hinv2 := inv_take hinv ht
        by_cases hro : rooms = []
        · subst hro
          simp [Try.ntmps12, Try.results12, cSl, cp0, cp1, cp2, cp3, cp4, cn0, cI, cD, cF, cA, hks, irow, hk64', ht, takeE, Twn.hrow, rTwn, twnDec, rRm, hw, Rm.row, ownA_nil, ownT_nil]
          exact ⟨k + 1, by omega, ⟨N2, l2⟩, [⟨a, sizes[k]⟩], ⟨by omega, by omega, by simp, hinv2⟩, [0, 3], by simp [ownA, ownT, Rm.row]⟩
        · have o1 : ownA 1 2 (rooms.map Rm.row) = .osl 1 2 0 rooms.length rooms.length := by simp [ownA, hro]
          have o2 : ownT 2 (rooms.map Rm.row) = [some (2, rooms.map Rm.row)] := by simp [ownT, hro]
          have n1 : ¬ (rooms.length + 1 ≤ rooms.length) := by omega
          have n2 : rooms.length + 1 ≤ 4294967296 := by omega
          simp [Try.ntmps12, Try.results12, cSl, cp0, cp1, cp2, cp3, cp4, cn0, cI, cD, cF, cA, hks, irow, hk64', ht, takeE, Twn.hrow, rTwn, twnDec, rRm, hw, Rm.row, o1, o2, n1, n2]
          exact ⟨k + 1, by omega, ⟨N2, l2⟩, rooms ++ [⟨a, sizes[k]⟩], ⟨by omega, by omega, by simp; omega, hinv2⟩, [0, 4], by simp [ownA, ownT, Rm.row]⟩
  · simp [Try.ntmps12, Try.results12, cSl, cp0, cp1, cp2, cp3, cp4, cn0, cI, cD, cF, cA, hks]
    have hi2 := hinv
    by_cases hro : rooms = []
    · subst hro
      have hend := inv_end hi2
      simp only at hend
      subst hend
      refine loop_rounds 1 ?_
      simp [Try.ntmps12, Try.results12, cSl, cp0, cp1, cp2, cp3, cp4, cn0, cI, cD, cF, cA, UnrK, Twn.hrow, rRm, Rm.row, rmDec]
    · have hrl : rooms.length ≤ 64 := by omega
      refine loop_inv (σ := {p : Nat × Twn × List Rm // p.1 + p.2.2.length ≤ 64 ∧ AllInv o p.2.1 p.2.2}) (fun p => ([(0, .v (.int .i64 o)), (2, .fsl false 1 (back.map (irow .i64))), (7, .ptr 0 2 0 0), (9, .osl 1 2 0 p.val.2.2.length p.val.2.2.length), (15, .v (.int .i64 p.val.1))], [some (2, [p.val.2.1.hrow]), some (2, p.val.2.2.map Rm.row)])) (fun p => p.val.2.2.length) ⟨(0, ⟨N', l'⟩, rooms), by simp; omega, hi2⟩ (by simp [Twn.hrow, ownA, ownT, hro]) ?_
      rintro ⟨⟨i, ⟨N2, l2⟩, rs⟩, j1, j2⟩
      simp only at j1 j2 ⊢
      have hw : IntKind.i64.wrap ((i : Int) + 1) = ((i + 1 : Nat) : Int) := by rw [w64 (by omega) (by omega)]; simp
      by_cases hrs : rs = []
      · subst hrs
        have hend := inv_end j2
        simp only at hend
        subst hend
        simp [Try.ntmps12, Try.results12, cSl, cp0, cp1, cp2, cp3, cp4, cn0, cI, cD, cF, cA, Twn.hrow, rRm, Rm.row, rmDec]
      · have hpos : 0 < rs.length := List.length_pos_iff.2 hrs
        have hl3 : rs.length ≤ 1048576 := by omega
        by_cases hib : i < back.length
        · obtain ⟨p1, p2, p3, p4⟩ := pickN_ok back[i] hpos
          generalize pickN back[i] rs.length = j at *
          obtain ⟨⟨N3, l3⟩, h3, j3⟩ := inv_give j2 p1
          have hne0 : ¬ (rs.length : Int) = 0 := by omega
          have hne1 : ¬ rs.length = 0 := by omega
          have w1 : IntKind.i64.wrap (back[i].tmod rs.length + rs.length) = back[i].tmod rs.length + rs.length := w64 (by omega) (by omega)
          have w2 : IntKind.i64.wrap ((j : Int) + 1) = (j : Int) + 1 := w64 (by omega) (by omega)
          have he : (rs.map Rm.row).eraseIdx j = (rs.eraseIdx j).map Rm.row := by rw [List.eraseIdx_eq_take_drop_succ, List.eraseIdx_eq_take_drop_succ]; simp
          have hle : (rs.eraseIdx j).length = rs.length - 1 := by rw [List.length_eraseIdx, if_pos p1]
          simp [Try.ntmps12, Try.results12, cSl, cp0, cp1, cp2, cp3, cp4, cn0, cI, cD, cF, cA, Twn.hrow, rTwn, twnDec, rRm, Rm.row, rmDec, hpos, hib, irow, hne0, hne1, w1, p2, p1, h3, twE, w2, deleteI, hl3, he, hw, hrs]
          exact ⟨i + 1, ⟨N3, l3⟩, rs.eraseIdx j, by omega, ⟨hle.symm, by simp⟩, ⟨rfl, rfl⟩, ⟨by omega, j3⟩, rfl⟩
        · obtain ⟨⟨N3, l3⟩, h3, j3⟩ := inv_give j2 hpos
          have he : (rs.map Rm.row).eraseIdx 0 = (rs.eraseIdx 0).map Rm.row := by rw [List.eraseIdx_eq_take_drop_succ, List.eraseIdx_eq_take_drop_succ]; simp
          have hle : (rs.eraseIdx 0).length = rs.length - 1 := by rw [List.length_eraseIdx, if_pos hpos]
          simp [Try.ntmps12, Try.results12, cSl, cp0, cp1, cp2, cp3, cp4, cn0, cI, cD, cF, cA, Twn.hrow, rTwn, twnDec, rRm, Rm.row, rmDec, hpos, hib, h3, twE, deleteI, hl3, he, hw, hrs]
          exact ⟨i + 1, ⟨N3, l3⟩, rs.eraseIdx 0, by omega, ⟨hle.symm, by simp⟩, ⟨rfl, rfl⟩, ⟨by omega, j3⟩, by rw [← he]; simp⟩
end Go.Proofs.Ytjohjiphjmcolaa
