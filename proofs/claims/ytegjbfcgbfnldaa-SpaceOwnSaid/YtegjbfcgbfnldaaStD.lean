/- The statement SpaceZero. -/
import Derived.Test.YtegjbfcgbfnldaaSmF
namespace Go.Proofs.Ytegjbfcgbfnldaa
open Go.AI
set_option maxHeartbeats 2000000
set_option maxRecDepth 100000
set_option linter.unusedSimpArgs false
set_option linter.unusedVariables false
attribute [local simp] wpA wpX RunA RunD runF foot footP footB idsA bare apart runL step1 gsel_f gsel_t gsel_s res_same res_and1 res_and2 res_and3 res_and4 res_and5 res_and6 res_false res_true res_v res_ptr res_fptr res_osl res_xsl soft aAppendZ aCap ovlI ovlJ res_fsl res_esl res_agg res_tup res_fn res_junk res_anyb aPick hk imp_left iteV dstOk guardOk astep astepE AI.ev AI.look AI.put envOf aBox cellsOf allOne allOneA oneA Value.oneCell' Value.cells newObj' aFieldAddr aLoad obj readAt thenA blockA condA retA resA tupA view hot hotC hotR depthV cAgg cInt cBool mkAgg allV aAlloc aBuild fillA writeAt aStore isAggA aField idx aIndexAddr aIndex bnd aSlice aExtract aLen aBuiltin aCall isStatic eqAgg eqTy eqC ev_add ev_sub ev_mul ev_quo ev_rem ev_and ev_or ev_xor ev_andNot ev_shl ev_shr ev_eql ev_neq ev_lss ev_leq ev_gtr ev_geq ev_agg w64 wu32 wu8 ev_not ev_neg Cod.plain RCod.plain argM finM cold coldC coldR goInt intDec boolDec aggDec Weaker heapW lowA lowC Again slDec undef aBuildSlice setRows aAppend rowsOf aMakeSlice aClear aCopy softer_self softer_nil valsOf ev_min2 ev_max2 hotR_set hotR_append take_map_set irow_cold irow_mapM irow_mapMc irow_view irow_viewc irow_hotR irow_ren irow_renc irow_low WeakT heapT thOf ren renC AgainT NextF NextT fnDec cFn rNil selfLt natLt0 natLt1 getLastMap frame0 frame1 own0 own1 argG finG tau tauI tauO tauC bareA bareC bareH irow_tau irow_tauc irow_bare irow_flat irow_bareR ownA_nil ownT_nil ownA_c ownT_c ownA_s ownT_s takeMapLen footC plainA noId noIdC cloneF frame0F frame1F insertF replaceI replaceF cellDec rCell fpDec cFp rTwo deleteF allV_oA oneA_oA res_oA RunR RunE runFT footAt hotR_cat tmodN aEqH aSliceA fxSz3 fxBy3 fxAg3 fxZe3 fxSz4 fxAg4 fxSz5 fxBy5 fxAg5 fxZe5 fxSl22 fxAr22 fxSz26 fxAg26 fxZe26 fxSz28 fxBy28 fxAg28 fxZe28 fxSl28 fxAr28 fxSl51 fxAr51 fxSl58 fxAr58 fxSz69 fxAg69 fxZe69 fxFi69x0 fxFi69x1 fxFi69x2 fxFi69x3 fxFi69x4 fxFi69x5 fxSz71 fxBy71 fxAg71 fxZe71 fxSz73 fxAg73 fxZe73 fxFi73x0 fxFi73x1 fxPl73 fxZe75 fxSz76 fxAg76 fxSl76 fxAr76 fxAg77 fxZe79 fxFi79x0 fxFi79x1 fxFi79x2 fxFi79x3 fxFi79x4 fxPl79 fxSz82 fxAg82 fxZe82 fxSl82 fxAr82 fxPl82 fxSl87 fxAr87 fxSz91 fxZe91 fxFi91x0 fxFi91x1 fxFi91x2 fxFi91x3 fxPl91 fxCv3x36 fxCv36x3 fxEb4 fxNb4 fxLn28 fxNe28 fxOe28 fxXe28 fxLn58 fxNe58 fxOe58 fxXe58 fxLn76 fxFm15 fxFm16 fxFi16 fxFm17 fxFm18 fxFm19 fxFi19 fxFm20 fxFi20 fxFm21 fxFm22 fxFm23 fxFm24 fxFm25 fxFi25 fxFm26 fxFm27 fxFm28 fxFi28 fxFm29 fxFi29 fxFm30 fxFm31 fxFm32 fxFm33 fxFi33 fxFm34 fxFm35 fxFm36 fxFm37 fxFm38 fxFi38 fxFm39 fxFm40 fxFm41 fxFi41 fxFm42 fxFm43 fxFm44 fxFi44 fxFm45 fxFi45 fxFm46 fxFm47 fxFm48 fxFm49 fxFi49 fxFm50 fxFi50 fxFm51 fxFi51 fxFm52 fxFi52 fxFm53 fxFm54 fxFi54 fxFm55 fxFi55 fxFm56 fxFm57 fxFi57 fxFm58 fxFi58 fxFm61 fxFm62 fxFi62 fxFm63 fxFi63 fxFm64 fxFm65 fxFi65 fxFm77 fxFi77
attribute [local simp] pgRow_len pg16 pg17 pg18 pg16' pg17' pg18' ww16 ww17 ww18 keyI_ok aLookup aMapUpdate aDelete lkRes bin_mn spV enV Try.underlying75 Try.underlying77
attribute [local simp] Dd.eta Dd.dec_row Dd.dec_hrow
attribute [local simp] bin_pM bin_pMM rDd_sz rDd_enc
/-- a page that may be read -/
theorem pg_read {H : Heap} {mid : Nat} {A : Ab} (h : RG mid (H, A)) {s k rg : Int} {d : List Int} (hv : vw A s k = some (d, rg)) (hr : iand .i64 rg 1 = 1) :
    ∃ X L', readM [.ptr mid 5 0 0, .v (.int .i64 s), .v (.int .i64 (k * 16)), .v (.int .i64 16)] H = some (.tup [.osl X.length 1 0 16 16, .v (.int .i64 0)], X ++ [some (1, d.map (irow .u8))]) ∧ Like A.lo L' ∧ RG mid (X, { A with lo := L' }) := by
  have hk := (vw_rg h.2 hv).1
  have hw : IntKind.i64.wrap (k * 16) = k * 16 := w64 (by omega) (by omega)
  have hev : readM [.ptr mid 5 0 0, .v (.int .i64 s), .v (.int .i64 (k * 16)), .v (.int .i64 16)] H = some (readR H mid A s (k * 16) 16) := by
    simp only [readM, rg_at h, Option.bind_some]
    rw [if_pos hw]
  obtain ⟨m, es, p, q, h1, _, _, _⟩ := vw_inv hv
  have hm := may_iff h.2 (want := 1) (addr := k * 16) h1 16
  have hok : okV A s 1 k = true := by unfold okV; rw [hv]; simp [hr]
  have hmay : (mayR es 1 (k * 16) 16).1 = true := hm.2 fun i hi => by rw [show (k * 16 + (i : Int)) / 16 = k by omega]; exact hok
  have hb : fetchB es A.lo (k * 16) 16 = d := by
    rw [fetchB_bt h.2 h1, Int.mul_comm, btL_page hv (vw_len h.1 hv)]
  rw [hev]
  unfold readR
  rw [h1]
  simp only
  rw [if_neg (by omega), if_pos hmay]
  have e3 : Int.toNat 16 = 16 := rfl
  simp only [e3, hb]
  refine ⟨wr (H ++ List.replicate (mayR es 1 (k * 16) 16).2 none) mid (fetchL es A.lo (k * 16) 16) ++ List.replicate 31 none, fetchL es A.lo (k * 16) 16, ?_, Like.fetch es A.lo (k * 16) 16, fetch_rg (rg_app h) es (k * 16) _⟩
  generalize (mayR es 1 (k * 16) 16).2 = g
  have e4 : outK d 16 = List.replicate 31 none ++ [some (1, d.map (irow .u8))] := rfl
  have e5 : (wr (H ++ List.replicate g none) mid (fetchL es A.lo (k * 16) 16) ++ List.replicate 31 none).length = H.length + g + 31 := by simp [wr_len]
  rw [e4, e5]
  simp [outV, tupA]
theorem z1_pure : PureOk Try.prog 20 (argM (cInt .u8) fun e => finM (some (.v (.bool (e != 0))))) := by
  refine pure1 Try.func20 rfl ?_
  rintro e r hr
  simp only [Option.some.injEq] at hr
  subst hr
  refine body_gen noOrc_ok fxMix (by kernel_rfl) (by simp [Try.ntmps20]) ?_
  intro C cP cI cN cD cF cA cR cL
  replace cI : C.inl = fun _ => false := cI
  replace cR : C.rd = fun _ => none := cR
  replace cD : C.dyn = fun _ => [] := cD
  clear cP cN cF cA
  simp [Try.ntmps20, Try.results20, cSl, cI, cD, cR]
theorem zIdx_pure : PureOk Try.prog 49 (argM (cSl (rI .u8)) fun l => argM (cFn 20 rNil) fun cp => finM (if l.length ≤ 4294967296 then some (.v (.int .i64 (idxP ((· != 0)) l))) else none)) := by
  refine pure2 Try.func49 rfl ?_
  rintro l cp r hr
  by_cases hc : l.length ≤ 4294967296
  case neg => rw [if_neg hc] at hr; cases hr
  rw [if_pos hc] at hr
  simp only [Option.some.injEq] at hr
  subst hr
  refine body_gen (noOrc_ok.withP z1_pure) fxMix (by kernel_rfl) (by simp [Try.ntmps49]) ?_
  intro C cP cI cN cD cF cA cR cL
  have cp0 := orcP z1_pure (C := C) (by rw [cP]; rfl)
  replace cI : C.inl = fun _ => false := cI
  replace cR : C.rd = fun _ => none := cR
  replace cD : C.dyn = fun _ => [] := cD
  clear cP cN cF cA
  simp [Try.ntmps49, Try.results49, cSl, cp0, cI, cD, cR, rI, irow]
  refine loop_for l.length (fun k (_ : Unit) => ([(0, .fsl false 1 (l.map (irow .u8))), (1, .fn 20 []), (7, .v (.int .i64 l.length)), (8, .v (.int .i64 k))], [])) (fun k _ => ((l.drop k).findIdx? ((· != 0))).map (· + k) = l.findIdx? ((· != 0))) () hc (by simp) (by simp [rI, irow]) ?_ ?_
  · intro k _ hk hall hw
    by_cases q : ((· != 0)) l[k] = true
    · rw [find_drop hk, if_pos q] at hall
      try simp at q
      simp [Try.ntmps49, Try.results49, cSl, cp0, cI, cD, cR, hk, hw, rI, irow, q, idxP, ← hall]
    · rw [find_drop hk, if_neg q] at hall
      try simp at q
      simp [Try.ntmps49, Try.results49, cSl, cp0, cI, cD, cR, hk, hw, rI, irow, q]
      simpa using hall
  · intro _ hall
    simp at hall
    simp [Try.ntmps49, Try.results49, cSl, cp0, cI, cD, cR, idxP, ← hall]
theorem zAny_pure : PureOk Try.prog 19 (argM (cSl (rI .u8)) fun l => argM (cFn 20 rNil) fun cp => finM (if l.length ≤ 4294967296 then some (.v (.bool (l.any ((· != 0))))) else none)) := by
  refine pure2 Try.func19 rfl ?_
  rintro l cp r hr
  by_cases hc : l.length ≤ 4294967296
  case neg => rw [if_neg hc] at hr; cases hr
  rw [if_pos hc] at hr
  simp only [Option.some.injEq] at hr
  subst hr
  refine body_gen (noOrc_ok.withP zIdx_pure) fxMix (by kernel_rfl) (by simp [Try.ntmps19]) ?_
  intro C cP cI cN cD cF cA cR cL
  have cp0 := orcP zIdx_pure (C := C) (by rw [cP]; rfl)
  replace cI : C.inl = fun _ => false := cI
  replace cR : C.rd = fun _ => none := cR
  replace cD : C.dyn = fun _ => [] := cD
  clear cP cN cF cA
  simp [Try.ntmps19, Try.results19, cSl, cp0, cI, cD, cR, hc, idxP_iff, rI] <;> (rw [Bool.eq_iff_iff]; simp)
theorem z16_len : z16.length = 16 := rfl
theorem z16_take : List.take 16 (z16.map (irow .u8)) = z16.map (irow .u8) := rfl
theorem z16_dec : List.mapM (irowDec .u8) (coldR (z16.map (irow .u8))) = some z16 := rfl
theorem z16_any : (z16.any fun x => x != 0) = false := rfl
theorem zero_pure : PureOk Try.prog 3 (argM (cInt .i64) fun f => argM (cInt .i64) fun sl => argM (cSl rDd) fun l => argM (cInt .i64) fun s => argM (cInt .i64) fun page => argM (cInt .i64) fun n => finM (if goodL l then some (.v (.bool true)) else none)) := by
  refine pure6 Try.func3 rfl ?_
  rintro f sl l s page n r hr
  by_cases hc : goodL l
  case neg => rw [if_neg hc] at hr; cases hr
  rw [if_pos hc] at hr
  simp only [Option.some.injEq] at hr
  subst hr
  refine body_gen (((((noOrc_ok.withP spaces_pure).withP zAny_pure).withI begun_inl).withI map_inl).withI read_inl) fxMix (by kernel_rfl) (by simp [Try.ntmps3]) ?_
  intro C cP cI cN cD cF cA cR cL
  have cp0 := orcP spaces_pure (C := C) (by rw [cP]; rfl)
  have cp1 := orcP zAny_pure (C := C) (by rw [cP]; rfl)
  have cn0 := orcI begun_inl (C := C) (by rw [cN]; rfl)
  have cn1 := orcI map_inl (C := C) (by rw [cN]; rfl)
  have cn2 := orcI read_inl (C := C) (by rw [cN]; rfl)
  replace cI := fun g => congrFun cI g
  simp only [Orc.withP, Orc.withI, Orc.withF, Orc.withD, Orc.withA, Orc.withR, Orc.withC, noOrc] at cI
  replace cR : C.rd = fun _ => none := cR
  replace cD : C.dyn = fun _ => [] := cD
  clear cP cN cF cA
  rcases begun_ev (f := f) (s := sl) hc with hb | ⟨G, A, hb, hrg, hf, hs⟩
  · simp [Try.ntmps3, Try.results3, cSl, cp0, cp1, cn0, cn1, cn2, cI, cD, cR, hb]
  · obtain ⟨e, G2, A2, hmap, r2, hE, hcs⟩ := map_ev hrg (s := s) (first := page) (n := n) (rights := 1)
    rcases hcs with ⟨rfl, _, hsp, _, _, hv⟩ | ⟨he, rfl, _⟩
    case inr =>
      simp [Try.ntmps3, Try.results3, cSl, cp0, cp1, cn0, cn1, cn2, cI, cD, cR, hb, hmap, he]
    unfold spanBad at hsp
    obtain ⟨N, rfl⟩ := Int.eq_ofNat_of_zero_le (show 0 ≤ n by omega)
    simp [Try.ntmps3, Try.results3, cSl, cp0, cp1, cn0, cn1, cn2, cI, cD, cR, hb, hmap]
    refine loop_forE N (fun k (x : Heap × Ab) => ([(3, .v (.int .i64 s)), (4, .v (.int .i64 page)), (13, .ptr 1 5 0 0), (36, .v (.int .i64 N)), (37, .v (.int .i64 k))], x.1)) (fun k x => RG 1 x ∧ ∀ j : Nat, j < N → vw x.2 s (page + (j : Nat)) = some (z16, 1)) (G2, A2) (fun k _ hk _ => by omega) ⟨r2, fun j hj => by rw [hv, if_pos (by omega)]⟩ (Ent.env (by simp)) ?_ ?_
    · rintro k ⟨X, B⟩ hk ⟨hx, hvx⟩ hw
      simp only at hvx
      obtain ⟨Y, L', hrd, lk, r3⟩ := pg_read hx (hvx k hk) rfl
      have w1 : IntKind.i64.wrap (page + k) = page + k := w64 (by omega) (by omega)
      have w2 : IntKind.i64.wrap ((page + k) * 16) = (page + k) * 16 := w64 (by omega) (by omega)
      have hkN : (k : Int) < N := by omega
      simp [Try.ntmps3, Try.results3, cSl, cp0, cp1, cn0, cn1, cn2, cI, cD, cR, w1, w2, hrd, hw, hk, hkN, rI, z16_len, z16_take, z16_dec, z16_any, List.getElem?_append]
      refine ⟨(Y ++ [some (1, z16.map (irow .u8))], { B with lo := L' }), ⟨rg_app r3, fun j hj => by rw [vw_like lk]; exact hvx j hj⟩, ?_⟩
      exact Ent.env (by simp)
    · rintro _ _
      simp [Try.ntmps3, Try.results3, cSl, cp0, cp1, cn0, cn1, cn2, cI, cD, cR]
end Go.Proofs.Ytegjbfcgbfnldaa
