/- The statement SpaceReclaim. -/
import Derived.Test.YtegjbfcgbfnldaaSmF
namespace Go.Proofs.Ytegjbfcgbfnldaa
open Go.AI
set_option maxHeartbeats 2000000
set_option maxRecDepth 100000
set_option linter.unusedSimpArgs false
set_option linter.unusedVariables false
attribute [local simp] wpA wpX RunA RunD runF foot footP footB idsA bare apart runL step1 gsel_f gsel_t gsel_s res_same res_and1 res_and2 res_and3 res_and4 res_and5 res_and6 res_false res_true res_v res_ptr res_fptr res_osl res_xsl soft aAppendZ aCap ovlI ovlJ res_fsl res_esl res_agg res_tup res_fn res_junk res_anyb aPick hk imp_left iteV dstOk guardOk astep astepE AI.ev AI.look AI.put envOf aBox cellsOf allOne allOneA oneA Value.oneCell' Value.cells newObj' aFieldAddr aLoad obj readAt thenA blockA condA retA resA tupA view hot hotC hotR depthV cAgg cInt cBool mkAgg allV aAlloc aBuild fillA writeAt aStore isAggA aField idx aIndexAddr aIndex bnd aSlice aExtract aLen aBuiltin aCall isStatic eqAgg eqTy eqC ev_add ev_sub ev_mul ev_quo ev_rem ev_and ev_or ev_xor ev_andNot ev_shl ev_shr ev_eql ev_neq ev_lss ev_leq ev_gtr ev_geq ev_agg w64 wu32 wu8 ev_not ev_neg Cod.plain RCod.plain argM finM cold coldC coldR goInt intDec boolDec aggDec Weaker heapW lowA lowC Again slDec undef aBuildSlice setRows aAppend rowsOf aMakeSlice aClear aCopy softer_self softer_nil valsOf ev_min2 ev_max2 hotR_set hotR_append take_map_set irow_cold irow_mapM irow_mapMc irow_view irow_viewc irow_hotR irow_ren irow_renc irow_low WeakT heapT thOf ren renC AgainT NextF NextT fnDec cFn rNil selfLt natLt0 natLt1 getLastMap frame0 frame1 own0 own1 argG finG tau tauI tauO tauC bareA bareC bareH irow_tau irow_tauc irow_bare irow_flat irow_bareR ownA_nil ownT_nil ownA_c ownT_c ownA_s ownT_s takeMapLen footC plainA noId noIdC cloneF frame0F frame1F insertF replaceI replaceF cellDec rCell fpDec cFp rTwo deleteF allV_oA oneA_oA res_oA RunR RunE runFT footAt hotR_cat tmodN aEqH aSliceA fxSz3 fxBy3 fxAg3 fxZe3 fxSz4 fxAg4 fxSz5 fxBy5 fxAg5 fxZe5 fxSl22 fxAr22 fxSz26 fxAg26 fxZe26 fxSz28 fxBy28 fxAg28 fxZe28 fxSl28 fxAr28 fxSl51 fxAr51 fxSl58 fxAr58 fxSz69 fxAg69 fxZe69 fxFi69x0 fxFi69x1 fxFi69x2 fxFi69x3 fxFi69x4 fxFi69x5 fxSz71 fxBy71 fxAg71 fxZe71 fxSz73 fxAg73 fxZe73 fxFi73x0 fxFi73x1 fxPl73 fxZe75 fxSz76 fxAg76 fxSl76 fxAr76 fxAg77 fxZe79 fxFi79x0 fxFi79x1 fxFi79x2 fxFi79x3 fxFi79x4 fxPl79 fxSz82 fxAg82 fxZe82 fxSl82 fxAr82 fxPl82 fxSl87 fxAr87 fxSz91 fxZe91 fxFi91x0 fxFi91x1 fxFi91x2 fxFi91x3 fxPl91 fxCv3x36 fxCv36x3 fxEb4 fxNb4 fxLn28 fxNe28 fxOe28 fxXe28 fxLn58 fxNe58 fxOe58 fxXe58 fxLn76 fxFm15 fxFm16 fxFi16 fxFm17 fxFm18 fxFm19 fxFi19 fxFm20 fxFi20 fxFm21 fxFm22 fxFm23 fxFm24 fxFm25 fxFi25 fxFm26 fxFm27 fxFm28 fxFi28 fxFm29 fxFi29 fxFm30 fxFm31 fxFm32 fxFm33 fxFi33 fxFm34 fxFm35 fxFm36 fxFm37 fxFm38 fxFi38 fxFm39 fxFm40 fxFm41 fxFi41 fxFm42 fxFm43 fxFm44 fxFi44 fxFm45 fxFi45 fxFm46 fxFm47 fxFm48 fxFm49 fxFi49 fxFm50 fxFi50 fxFm51 fxFi51 fxFm52 fxFi52 fxFm53 fxFm54 fxFi54 fxFm55 fxFi55 fxFm56 fxFm57 fxFi57 fxFm58 fxFi58 fxFm61 fxFm62 fxFi62 fxFm63 fxFi63 fxFm64 fxFm65 fxFi65 fxFm77 fxFi77
attribute [local simp] pgRow_len pg16 pg17 pg18 pg16' pg17' pg18' ww16 ww17 ww18 keyI_ok aLookup aMapUpdate aDelete lkRes bin_mn spV enV Try.underlying75 Try.underlying77
attribute [local simp] Dd.eta Dd.dec_row Dd.dec_hrow
attribute [local simp] bin_pM bin_pMM rDd_sz rDd_enc
attribute [local simp] rBs_sz bspR_cold bspR_dec bspR_mapM bspR_mapMc bspR_view bspR_viewc bspR_hotR bspR_ren bspR_renc bspR_low bspR_get bspR_len
theorem reclaim_pure : PureOk Try.prog 12 (argM (cInt .i64) fun f => argM (cInt .i64) fun sl => argM (cSl rDd) fun l => argM (cInt .i64) fun n => argM (cInt .i64) fun s => finM (if goodL l then some (.v (.bool true)) else none)) := by
  refine pure5 Try.func12 rfl ?_
  rintro f sl l n s r hr
  by_cases hc : goodL l
  case neg => rw [if_neg hc] at hr; cases hr
  rw [if_pos hc] at hr
  simp only [Option.some.injEq] at hr
  subst hr
  refine body_gen ((((((noOrc_ok.withP spaces_pure).withP same_pure).withI begun_inl).withI whole_inl).withR free_rd).withI rec_inl) fxMix (by kernel_rfl) (by simp [Try.ntmps12]) ?_
  intro C cP cI cN cD cF cA cR cL
  have cp0 := orcP spaces_pure (C := C) (by rw [cP]; rfl)
  have cp1 := orcP same_pure (C := C) (by rw [cP]; rfl)
  have cn0 := orcI begun_inl (C := C) (by rw [cN]; rfl)
  have cn1 := orcI whole_inl (C := C) (by rw [cN]; rfl)
  have cn2 := orcI rec_inl (C := C) (by rw [cN]; rfl)
  replace cI := fun g => congrFun cI g
  simp only [Orc.withP, Orc.withI, Orc.withF, Orc.withD, Orc.withA, Orc.withR, Orc.withC, noOrc] at cI
  replace cR := fun g => congrFun cR g
  simp only [Orc.withP, Orc.withI, Orc.withF, Orc.withD, Orc.withA, Orc.withR, Orc.withC, noOrc] at cR
  replace cD : C.dyn = fun _ => [] := cD
  clear cP cN cF cA
  rcases begun_ev (f := f) (s := sl) hc with hb | ⟨G, A, hb, hrg, hf, hs⟩
  · simp [Try.ntmps12, Try.results12, cSl, cp0, cp1, cn0, cn1, cn2, cI, cD, cR, hb]
  · obtain ⟨G1, L1, hw, lk, r1⟩ := whole_ev hrg s
    obtain ⟨a, b, hfree, hab, ha, a1, a2, a3, a4⟩ := free_ev2 r1
    obtain ⟨k, G2, L2, hrec, lk2, r2, hk, hhr, _⟩ := rec_ev r1 (n := n)
    obtain ⟨c, d, hfree2, hcd, hcc, c1, c2, c3, c4⟩ := free_ev2 r2
    obtain ⟨G3, L3, hw2, _, _⟩ := whole_ev r2 s
    have hle := seenL_le hrg s 64
    have hle2 : (∀ x, x ∈ seenL A s 64 → x.length ≤ 4294967296) = True := eq_true hle
    have hll := seenL_len A s 64
    have hfr := lk2.fr
    have hsl := lk2.sl
    have hln := lk2.len
    simp only at hhr hfr hsl hln hab ha hcd hcc
    have e1 : seenL { A with lo := L2 } s 64 = seenL A s 64 := by
      have := seenL_like (A := { A with lo := L1 }) lk2 s 64
      rw [seenL_like lk] at this
      exact this
    have hw2' : wholeM [.ptr 1 5 0 0, .v (.int .i64 s)] G2 = some (.fsl true 1 ((seenL A s 64).map (bspR true)), G3) := by
      rw [← e1]; exact hw2
    have k1 : c = a + k := by omega
    have k2 : d = b - k := by omega
    subst k1 k2
    have w1 : IntKind.i64.wrap (a + k) = a + k := w64 (by omega) (by omega)
    have w2 : IntKind.i64.wrap (b - k) = b - k := w64 (by omega) (by omega)
    have k3 : (k : Int) ≤ if n < 0 then 0 else n := by
      split <;> omega
    simp [Try.ntmps12, Try.results12, cSl, cp0, cp1, cn0, cn1, cn2, cI, cD, cR, k3, hb, hw, hfree, hrec, hfree2, hw2', w1, w2, hle2, hll]
end Go.Proofs.Ytegjbfcgbfnldaa
