/- The statements SpaceFork, SpaceParts. -/
import Derived.Test.YtegjbfcgbfnldaaSmF
namespace Go.Proofs.Ytegjbfcgbfnldaa
open Go.AI
set_option maxHeartbeats 2000000
set_option maxRecDepth 100000
set_option linter.unusedSimpArgs false
set_option linter.unusedVariables false
attribute [local simp] wpA wpX RunA RunD runF foot footP footB idsA bare apart runL step1 gsel_f gsel_t gsel_s res_same res_and1 res_and2 res_and3 res_and4 res_and5 res_and6 res_false res_true res_v res_ptr res_fptr res_osl res_xsl soft aAppendZ aCap ovlI ovlJ res_fsl res_esl res_agg res_tup res_fn res_junk res_anyb aPick hk imp_left iteV dstOk guardOk astep astepE AI.ev AI.look AI.put envOf aBox cellsOf allOne allOneA oneA Value.oneCell' Value.cells newObj' aFieldAddr aLoad obj readAt thenA blockA condA retA resA tupA view hot hotC hotR depthV cAgg cInt cBool mkAgg allV aAlloc aBuild fillA writeAt aStore isAggA aField idx aIndexAddr aIndex bnd aSlice aExtract aLen aBuiltin aCall isStatic eqAgg eqTy eqC ev_add ev_sub ev_mul ev_quo ev_rem ev_and ev_or ev_xor ev_andNot ev_shl ev_shr ev_eql ev_neq ev_lss ev_leq ev_gtr ev_geq ev_agg w64 wu32 wu8 ev_not ev_neg Cod.plain RCod.plain argM finM cold coldC coldR goInt intDec boolDec aggDec Weaker heapW lowA lowC Again slDec undef aBuildSlice setRows aAppend rowsOf aMakeSlice aClear aCopy softer_self softer_nil valsOf ev_min2 ev_max2 hotR_set hotR_append take_map_set irow_cold irow_mapM irow_mapMc irow_view irow_viewc irow_hotR irow_ren irow_renc irow_low WeakT heapT thOf ren renC AgainT NextF NextT fnDec cFn rNil selfLt natLt0 natLt1 getLastMap frame0 frame1 own0 own1 argG finG tau tauI tauO tauC bareA bareC bareH irow_tau irow_tauc irow_bare irow_flat irow_bareR ownA_nil ownT_nil ownA_c ownT_c ownA_s ownT_s takeMapLen footC plainA noId noIdC cloneF frame0F frame1F insertF replaceI replaceF cellDec rCell fpDec cFp rTwo deleteF allV_oA oneA_oA res_oA RunR RunE runFT footAt hotR_cat tmodN aEqH aSliceA fxSz3 fxBy3 fxAg3 fxZe3 fxSz4 fxAg4 fxSz5 fxBy5 fxAg5 fxZe5 fxSl22 fxAr22 fxSz26 fxAg26 fxZe26 fxSz28 fxBy28 fxAg28 fxZe28 fxSl28 fxAr28 fxSl51 fxAr51 fxSl58 fxAr58 fxSz69 fxAg69 fxZe69 fxFi69x0 fxFi69x1 fxFi69x2 fxFi69x3 fxFi69x4 fxFi69x5 fxSz71 fxBy71 fxAg71 fxZe71 fxSz73 fxAg73 fxZe73 fxFi73x0 fxFi73x1 fxPl73 fxZe75 fxSz76 fxAg76 fxSl76 fxAr76 fxAg77 fxZe79 fxFi79x0 fxFi79x1 fxFi79x2 fxFi79x3 fxFi79x4 fxPl79 fxSz82 fxAg82 fxZe82 fxSl82 fxAr82 fxPl82 fxSl87 fxAr87 fxSz91 fxZe91 fxFi91x0 fxFi91x1 fxFi91x2 fxFi91x3 fxPl91 fxCv3x36 fxCv36x3 fxEb4 fxNb4 fxLn28 fxNe28 fxOe28 fxXe28 fxLn58 fxNe58 fxOe58 fxXe58 fxLn76 fxFm15 fxFm16 fxFi16 fxFm17 fxFm18 fxFm19 fxFi19 fxFm20 fxFi20 fxFm21 fxFm22 fxFm23 fxFm24 fxFm25 fxFi25 fxFm26 fxFm27 fxFm28 fxFi28 fxFm29 fxFi29 fxFm30 fxFm31 fxFm32 fxFm33 fxFi33 fxFm34 fxFm35 fxFm36 fxFm37 fxFm38 fxFi38 fxFm39 fxFm40 fxFm41 fxFi41 fxFm42 fxFm43 fxFm44 fxFi44 fxFm45 fxFi45 fxFm46 fxFm47 fxFm48 fxFm49 fxFi49 fxFm50 fxFi50 fxFm51 fxFi51 fxFm52 fxFi52 fxFm53 fxFm54 fxFi54 fxFm55 fxFi55 fxFm56 fxFm57 fxFi57 fxFm58 fxFi58 fxFm61 fxFm62 fxFi62 fxFm63 fxFi63 fxFm64 fxFm65 fxFi65 fxFm77 fxFi77
attribute [local simp] pgRow_len pg16 pg17 pg18 pg16' pg17' pg18' ww16 ww17 ww18 keyI_ok aLookup aMapUpdate aDelete lkRes bin_mn spV enV Try.underlying75 Try.underlying77
attribute [local simp] Dd.eta Dd.dec_row Dd.dec_hrow
attribute [local simp] bin_pM bin_pMM rDd_sz rDd_enc
attribute [local simp] rBs_sz bspR_cold bspR_dec bspR_mapM bspR_mapMc bspR_view bspR_viewc bspR_hotR bspR_ren bspR_renc bspR_low bspR_get bspR_len
theorem fsl_bytes (H : Heap) (o : Bool) (d : List Int) : bytesAt H (.fsl o 1 (d.map (irow .u8))) = some d := by1_of d
theorem wdata {H : Heap} {mid : Nat} {A : Ab} (h : RG mid (H, A)) {s addr : Int} {d : List Int} (hw : IntKind.i64.wrap addr = addr) (o : Bool) : writeM [.ptr mid 5 0 0, .v (.int .i64 s), .v (.int .i64 addr), .fsl o 1 (d.map (irow .u8))] H = some (writeR H mid A s addr d) :=
  write_eval (rg_at h) (fsl_bytes H o d) hw trivial
theorem fork_pure : PureOk Try.prog 11 (argM (cInt .i64) fun f => argM (cInt .i64) fun sl => argM (cSl rDd) fun l => argM (cInt .i64) fun s => finM (if goodL l then some (.v (.bool true)) else none)) := by
  refine pure4 Try.func11 rfl ?_
  rintro f sl l s r hr
  by_cases hc : goodL l
  case neg => rw [if_neg hc] at hr; cases hr
  rw [if_pos hc] at hr
  simp only [Option.some.injEq] at hr
  subst hr
  refine body_gen ((((((noOrc_ok.withP spaces_pure).withP same_pure).withI begun_inl).withI whole_inl).withR free_rd).withI fork_inl) fxMix (by kernel_rfl) (by simp [Try.ntmps11]) ?_
  intro C cP cI cN cD cF cA cR cL
  have cp0 := orcP spaces_pure (C := C) (by rw [cP]; rfl)
  have cp1 := orcP same_pure (C := C) (by rw [cP]; rfl)
  have cn0 := orcI begun_inl (C := C) (by rw [cN]; rfl)
  have cn1 := orcI whole_inl (C := C) (by rw [cN]; rfl)
  have cn2 := orcI fork_inl (C := C) (by rw [cN]; rfl)
  replace cI := fun g => congrFun cI g
  simp only [Orc.withP, Orc.withI, Orc.withF, Orc.withD, Orc.withA, Orc.withR, Orc.withC, noOrc] at cI
  replace cR := fun g => congrFun cR g
  simp only [Orc.withP, Orc.withI, Orc.withF, Orc.withD, Orc.withA, Orc.withR, Orc.withC, noOrc] at cR
  replace cD : C.dyn = fun _ => [] := cD
  clear cP cN cF cA
  rcases begun_ev (f := f) (s := sl) hc with hb | ⟨G, A, hb, hrg, hf, hs⟩
  · simp [Try.ntmps11, Try.results11, cSl, cp0, cp1, cn0, cn1, cn2, cI, cD, cR, hb]
  · obtain ⟨G1, L1, hw, lk, r1⟩ := whole_ev hrg s
    obtain ⟨a, b, hfree, hab, ha, a1, a2, a3, a4⟩ := free_ev2 r1
    obtain ⟨to, e, G2, A2, hfk, r2, f1, f2, f3, hcs⟩ := fork_ev r1 (s := s)
    have hle := seenL_le hrg s 64
    have hle2 : (∀ x, x ∈ seenL A s 64 → x.length ≤ 4294967296) = True := eq_true hle
    have hll := seenL_len A s 64
    rcases hcs with ⟨rfl, hyes, hno, _, hv, _⟩ | ⟨he, rfl, rfl, rfl⟩
    · obtain ⟨c, d, hfree2, hcd, _, c1, c2, c3, c4⟩ := free_ev2 r2
      obtain ⟨G3, L3, hw3, lk3, r3⟩ := whole_ev r2 to
      obtain ⟨G4, L4, hw4, _, _⟩ := whole_ev r3 s
      have hne : ¬ to = s := by
        rintro rfl
        exact hno hyes
      have e1 : seenL A2 to 64 = seenL A s 64 := seenL_eq (fun k => by rw [hv, if_pos rfl, vw_like lk]) 64
      have e2 : seenL { A2 with lo := L3 } s 64 = seenL A s 64 := by
        rw [seenL_like lk3]
        exact seenL_eq (fun k => by rw [hv, if_neg (fun e => hne e.symm), vw_like lk]) 64
      rw [e1] at hw3
      rw [e2] at hw4
      simp only at f1 f2 f3 hab
      have k1 : c + d = a + b := by omega
      have w1 : IntKind.i64.wrap (a + b) = a + b := w64 (by omega) (by omega)
      have hbn : (to != s) = true := by simp [hne]
      simp [Try.ntmps11, Try.results11, cSl, cp0, cp1, cn0, cn1, cn2, cI, cD, cR, hb, hw, hfree, hfk, hfree2, hw3, hw4, k1, w1, hle2, hll, hne, hbn]
    · simp [Try.ntmps11, Try.results11, cSl, cp0, cp1, cn0, cn1, cn2, cI, cD, cR, hb, hw, hfree, hfk, he]
theorem parts_pure : PureOk Try.prog 8 (argM (cInt .i64) fun f => argM (cInt .i64) fun sl => argM (cSl rDd) fun l => argM (cInt .i64) fun s => argM (cInt .i64) fun addr => argM (cSl (rI .u8)) fun d => finM (if goodL l ∧ IntKind.i64.wrap addr = addr then some (.v (.bool true)) else none)) := by
  refine pure6 Try.func8 rfl ?_
  rintro f sl l s addr d r hr
  by_cases hc : goodL l ∧ IntKind.i64.wrap addr = addr
  case neg => rw [if_neg hc] at hr; cases hr
  rw [if_pos hc] at hr
  simp only [Option.some.injEq] at hr
  subst hr
  refine body_gen ((((((noOrc_ok.withP spaces_pure).withP same_pure).withI begun_inl).withI whole_inl).withI fork_inl).withI write_inl) fxMix (by kernel_rfl) (by simp [Try.ntmps8]) ?_
  intro C cP cI cN cD cF cA cR cL
  have cp0 := orcP spaces_pure (C := C) (by rw [cP]; rfl)
  have cp1 := orcP same_pure (C := C) (by rw [cP]; rfl)
  have cn0 := orcI begun_inl (C := C) (by rw [cN]; rfl)
  have cn1 := orcI whole_inl (C := C) (by rw [cN]; rfl)
  have cn2 := orcI fork_inl (C := C) (by rw [cN]; rfl)
  have cn3 := orcI write_inl (C := C) (by rw [cN]; rfl)
  replace cI := fun g => congrFun cI g
  simp only [Orc.withP, Orc.withI, Orc.withF, Orc.withD, Orc.withA, Orc.withR, Orc.withC, noOrc] at cI
  replace cR : C.rd = fun _ => none := cR
  replace cD : C.dyn = fun _ => [] := cD
  clear cP cN cF cA
  obtain ⟨hc, hwa⟩ := hc
  rcases begun_ev (f := f) (s := sl) hc with hb | ⟨G, A, hb, hrg, hf, hs⟩
  · simp [Try.ntmps8, Try.results8, cSl, cp0, cp1, cn0, cn1, cn2, cn3, cI, cD, cR, hb]
  · obtain ⟨to, e, G2, A2, hfk, r2, f1, f2, f3, hcs⟩ := fork_ev hrg (s := s)
    rcases hcs with ⟨rfl, hhs, hno, _, hv, hks⟩ | ⟨he, rfl, rfl, rfl⟩
    case inr =>
      simp [Try.ntmps8, Try.results8, cSl, cp0, cp1, cn0, cn1, cn2, cn3, cI, cD, cR, hb, hfk, he]
    have hne : ¬ to = s := by
      rintro rfl
      exact hno hhs
    have hne' : ¬ s = to := fun e => hne e.symm
    obtain ⟨G3, L3, hw3, lk3, r3⟩ := whole_ev r2 s
    have e1 : seenL A2 s 64 = seenL A s 64 := seenL_eq (fun k => by rw [hv, if_neg hne']) 64
    rw [e1] at hw3
    have hle := seenL_le hrg s 64
    have hle2 : (∀ x, x ∈ seenL A s 64 → x.length ≤ 4294967296) = True := eq_true hle
    have hll := seenL_len A s 64
    obtain ⟨e4, G4, A4, hwr, r4, hE4, hc4⟩ := write_ev r3 (s := to) (d := d) hwa
    have hwr' := (wdata r3 (s := to) (d := d) hwa false).trans (congrArg some hwr)
    have hv4 : ∀ k, vw A4 s k = vw A s k := fun k => by rw [hE4.ot s k hne', vw_like lk3, hv, if_neg hne']
    rcases hc4 with ⟨rfl, _, hlen4, hok4, hv4t⟩ | ⟨he4, rfl, _⟩
    case inr =>
      obtain ⟨G5, L5, hw5, lk5, r5⟩ := whole_ev r4 to
      obtain ⟨G6, L6, hw6, _, _⟩ := whole_ev r5 s
      have e5 : seenL { A2 with lo := L3 } to 64 = seenL A s 64 := seenL_eq (fun k => by rw [vw_like lk3, hv, if_pos rfl]) 64
      have e6 : seenL { A2 with lo := L5 } s 64 = seenL A s 64 := seenL_eq (fun k => by have := vw_like lk5 s k; simp only at this; rw [this]; exact hv4 k) 64
      rw [e5] at hw5
      replace hw6 : wholeM [.ptr 1 5 0 0, .v (.int .i64 s)] G5 = some (.fsl true 1 ((seenL A s 64).map (bspR true)), G6) := by rw [← e6]; exact hw6
      simp [Try.ntmps8, Try.results8, cSl, cp0, cp1, cn0, cn1, cn2, cn3, cI, cD, cR, rI, hb, hfk, hw3, hwr', he4, hw5, hw6, hle2, hll]
    obtain ⟨G5, L5, hw5, lk5, r5⟩ := whole_ev r4 to
    obtain ⟨G6, L6, hw6, lk6, r6⟩ := whole_ev r5 s
    have e6 : seenL { A4 with lo := L5 } s 64 = seenL A s 64 := seenL_eq (fun k => by rw [vw_like lk5]; exact hv4 k) 64
    rw [e6] at hw6
    obtain ⟨e7, G7, A7, hwr7, r7, hE7, hc7⟩ := write_ev r6 (s := s) (d := d) hwa
    have hwr7' := (wdata r6 (s := s) (d := d) hwa false).trans (congrArg some hwr7)
    have hv6 : ∀ t k, vw ({ lo := L6, sps := A4.sps } : Ab) t k = vw A4 t k := fun t k => by
      have h1 := vw_like lk6 t k
      have h2 := vw_like lk5 t k
      simp only at h1 h2
      rw [h1, h2]
    have hle4 := seenL_le r4 to 64
    have hle42 : (∀ x, x ∈ seenL A4 to 64 → x.length ≤ 4294967296) = True := eq_true hle4
    have hll4 := seenL_len A4 to 64
    rcases hc7 with ⟨rfl, _, _, _, hv7⟩ | ⟨he7, rfl, _⟩
    · obtain ⟨G8, L8, hw8, lk8, r8⟩ := whole_ev r7 s
      obtain ⟨G9, L9, hw9, _, _⟩ := whole_ev r8 to
      have e8 : seenL A7 s 64 = seenL A4 to 64 := seenL_eq (fun k => by
        have h1 := hv7 k
        simp only at h1
        rw [h1, hv6, hv4, hv4t, vw_like lk3, hv, if_pos rfl]) 64
      have e9 : seenL { A7 with lo := L8 } to 64 = seenL A4 to 64 := seenL_eq (fun k => by
        have h1 := hE7.ot to k hne
        simp only at h1
        rw [vw_like lk8, h1, hv6]) 64
      rw [e8] at hw8
      rw [e9] at hw9
      simp [Try.ntmps8, Try.results8, cSl, cp0, cp1, cn0, cn1, cn2, cn3, cI, cD, cR, rI, hb, hfk, hw3, hwr', hw5, hw6, hwr7', hw8, hw9, hle2, hll, hle42, hll4]
    · obtain ⟨G8, L8, hw8, lk8, r8⟩ := whole_ev r7 s
      have e8 : seenL { A4 with lo := L6 } s 64 = seenL A s 64 := seenL_eq (fun k => by rw [hv6, hv4]) 64
      replace hw8 : wholeM [.ptr 1 5 0 0, .v (.int .i64 s)] G7 = some (.fsl true 1 ((seenL A s 64).map (bspR true)), G8) := by rw [← e8]; exact hw8
      simp [Try.ntmps8, Try.results8, cSl, cp0, cp1, cn0, cn1, cn2, cn3, cI, cD, cR, rI, hb, hfk, hw3, hwr', hw5, hw6, hwr7', he7, hw8, hle2, hll, hle42, hll4]
end Go.Proofs.Ytegjbfcgbfnldaa
