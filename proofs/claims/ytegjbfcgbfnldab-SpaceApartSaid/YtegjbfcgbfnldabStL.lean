/- The statement SpaceApart. -/
import Derived.Test.YtegjbfcgbfnldabSmG
import Derived.Test.YtegjbfcgbfnldabStM
namespace Go.Proofs.Ytegjbfcgbfnldab
open Go.AI
set_option maxHeartbeats 2000000
set_option maxRecDepth 100000
set_option linter.unusedSimpArgs false
set_option linter.unusedVariables false
attribute [local simp] wpA wpX RunA RunD runF foot footP footB idsA bare apart runL step1 gsel_f gsel_t gsel_s res_same res_and1 res_and2 res_and3 res_and4 res_and5 res_and6 res_false res_true res_v res_ptr res_fptr res_osl res_xsl soft aAppendZ aCap ovlI ovlJ res_fsl res_esl res_agg res_tup res_fn res_junk res_anyb aPick hk imp_left iteV dstOk guardOk astep astepE AI.ev AI.look AI.put envOf aBox cellsOf allOne allOneA oneA Value.oneCell' Value.cells newObj' aFieldAddr aLoad obj readAt thenA blockA condA retA resA tupA view hot hotC hotR depthV cAgg cInt cBool mkAgg allV aAlloc aBuild fillA writeAt aStore isAggA aField idx aIndexAddr aIndex bnd aSlice aExtract aLen aBuiltin aCall isStatic eqAgg eqTy eqC ev_add ev_sub ev_mul ev_quo ev_rem ev_and ev_or ev_xor ev_andNot ev_shl ev_shr ev_eql ev_neq ev_lss ev_leq ev_gtr ev_geq ev_agg w64 wu32 wu8 ev_not ev_neg Cod.plain RCod.plain argM finM cold coldC coldR goInt intDec boolDec aggDec Weaker heapW lowA lowC Again slDec undef aBuildSlice setRows aAppend rowsOf aMakeSlice aClear aCopy softer_self softer_nil valsOf ev_min2 ev_max2 hotR_set hotR_append take_map_set irow_cold irow_mapM irow_mapMc irow_view irow_viewc irow_hotR irow_ren irow_renc irow_low WeakT heapT thOf ren renC AgainT NextF NextT fnDec cFn rNil selfLt natLt0 natLt1 getLastMap frame0 frame1 own0 own1 argG finG tau tauI tauO tauC bareA bareC bareH irow_tau irow_tauc irow_bare irow_flat irow_bareR ownA_nil ownT_nil ownA_c ownT_c ownA_s ownT_s takeMapLen footC plainA noId noIdC cloneF frame0F frame1F insertF replaceI replaceF cellDec rCell fpDec cFp rTwo deleteF allV_oA oneA_oA res_oA RunR RunE runFT footAt hotR_cat tmodN aEqH aSliceA fxSz3 fxBy3 fxAg3 fxZe3 fxSz4 fxAg4 fxSz5 fxBy5 fxAg5 fxZe5 fxSl22 fxAr22 fxSz23 fxBy23 fxAg23 fxZe23 fxSl23 fxAr23 fxSz25 fxAg25 fxZe25 fxFi25x0 fxFi25x1 fxFi25x2 fxFi25x3 fxFi25x4 fxFi25x5 fxSl30 fxAr30 fxSl32 fxAr32 fxSz37 fxAg37 fxZe37 fxSz48 fxAg48 fxSl48 fxAr48 fxAg49 fxZe51 fxFi51x0 fxFi51x1 fxFi51x2 fxFi51x3 fxFi51x4 fxPl51 fxZe63 fxSz64 fxBy64 fxAg64 fxZe64 fxSz66 fxAg66 fxZe66 fxFi66x0 fxFi66x1 fxPl66 fxSz69 fxAg69 fxZe69 fxSl69 fxAr69 fxPl69 fxSl73 fxAr73 fxSz80 fxZe80 fxFi80x0 fxFi80x1 fxFi80x2 fxFi80x3 fxPl80 fxCv45x3 fxLn23 fxLn48 fxFm4 fxFm5 fxFi5 fxFm6 fxFi6 fxFm7 fxFm8 fxFm9 fxFm10 fxFi10 fxFm11 fxFm12 fxFm13 fxFm14 fxFm15 fxFi15 fxFm16 fxFi16 fxFm17 fxFm18 fxFm19 fxFm20 fxFm21 fxFm22 fxFm23 fxFm24 fxFm25 fxFm26 fxFi26 fxFm27 fxFi27 fxFm28 fxFi28 fxFm29 fxFi29 fxFm30 fxFi30 fxFm31 fxFm32 fxFm33 fxFm34 fxFi34 fxFm35 fxFi35 fxFm38 fxFm39 fxFm40 fxFi40 fxFm41 fxFi41 fxFm42 fxFm43 fxFi43 fxFm55 fxFm56 fxFi56 fxFm57 fxFi57 fxFm64 fxFi64
attribute [local simp] pgRow_len pg16 pg17 pg18 pg16' pg17' pg18' ww16 ww17 ww18 keyI_ok aLookup aMapUpdate aDelete lkRes bin_mn spV enV Try.underlying63 Try.underlying49
attribute [local simp] Dd.eta Dd.dec_row Dd.dec_hrow
attribute [local simp] bin_pM bin_pMM rDd_sz rDd_enc
attribute [local simp] res_outZ
theorem sps_le {H : Heap} {mid : Nat} {A : Ab} (h : RG mid (H, A)) : A.sps.length ≤ 16 := by
  have := below_int (n := 16) (a := 1) h.1.nds (by
    intro z hz
    obtain ⟨x, hx, rfl⟩ := List.mem_map.1 hz
    have := h.2.num x hx
    omega)
  simpa using this
theorem spaces_ev {H : Heap} {mid : Nat} {A : Ab} (h : RG mid (H, A)) : spacesM [.ptr mid 5 0 0] H = some (outZ H.length A.sps.length, H ++ none :: outZK (sortZ (A.sps.map (·.1))) A.sps.length) := by
  simp only [spacesM, rg_at h, Option.map_some]
/-- a list of spaces, as a call is told -/
theorem outZ_dec {H : Heap} {n : Nat} {Z : List Int} (h : Z.length = n) : (cSl (rI .i64)).dec (cold (view (H ++ none :: outZK Z n) 4 (outZ H.length n))) = some Z := by
  cases n with
  | zero =>
    have : Z = [] := List.length_eq_zero_iff.1 h
    subst this
    simp [outZ_0, view, cold, cSl, slDec]
  | succ m =>
    have ho : obj (H ++ none :: (List.replicate (2 * m + 1) none ++ [some (1, Z.map (irow .i64))])) (H.length + (2 * m + 1 + 1)) = some (1, Z.map (irow .i64)) := by
      unfold obj
      rw [List.getElem?_append_right (by omega), Nat.add_sub_cancel_left, List.getElem?_cons_succ, List.getElem?_append_right (by simp)]
      simp
    rw [outZ_s, outZK_s]
    have htw : List.take (m + 1) (Z.map (irow .i64)) = Z.map (irow .i64) := List.take_of_length_le (by simp [h])
    have ho' := obj_get ho
    have hd : List.mapM (irowDec .i64) (Z.map (irow .i64)) = some Z := irow64_dec Z
    have hv : cold (view (H ++ none :: (List.replicate (2 * m + 1) none ++ [some (1, Z.map (irow .i64))])) 4 (.osl (H.length + (2 * m + 1 + 1)) 1 0 (m + 1) (m + 1))) = .fsl false 1 (Z.map (irow .i64)) := by
      simp [view, ho', h, htw, cold]
    rw [hv]
    exact irow64_dec Z
theorem apart_pure : PureOk Try.prog 3 (argM (cInt .i64) fun f => argM (cInt .i64) fun sl => argM (cSl rDd) fun l => argM (cAgg rDd) fun d => argM (cInt .i64) fun other => finM (if goodL l ∧ IntKind.i64.wrap d.addr = d.addr then some (.v (.bool true)) else none)) := by
  refine pure5 Try.func3 rfl ?_
  rintro f sl l d other r hr
  by_cases hc : goodL l ∧ IntKind.i64.wrap d.addr = d.addr
  case neg => rw [if_neg hc] at hr; cases hr
  rw [if_pos hc] at hr
  simp only [Option.some.injEq] at hr
  subst hr
  refine body_gen (((((((noOrc_ok.withP spaces_pure).withP contains_pure).withP same_pure).withI begun_inl).withI spaces_inl).withI whole_inl).withI do_inl) fxMix (by kernel_rfl) (by simp [Try.ntmps3]) ?_
  intro C cP cI cN cD cF cA cR cL
  have cp0 := orcP spaces_pure (C := C) (by rw [cP]; rfl)
  have ch0 := orcP contains_pure (C := C) (by rw [cP]; rfl)
  have ch1 := orcP same_pure (C := C) (by rw [cP]; rfl)
  have cn0 := orcI begun_inl (C := C) (by rw [cN]; rfl)
  have cn1 := orcI spaces_inl (C := C) (by rw [cN]; rfl)
  have cn2 := orcI whole_inl (C := C) (by rw [cN]; rfl)
  have cn3 := orcI do_inl (C := C) (by rw [cN]; rfl)
  replace cI := fun g => congrFun cI g
  simp only [Orc.withP, Orc.withI, Orc.withF, Orc.withD, Orc.withA, Orc.withR, Orc.withC, noOrc] at cI
  replace cR : C.rd = fun _ => none := cR
  replace cD : C.dyn = fun _ => [] := cD
  clear cP cN cF cA
  obtain ⟨hc, hwd⟩ := hc
  have hal : allV d.row = none := rfl
  rcases begun_evH (H := [some (6, [d.row])]) (f := f) (s := sl) hc with hb | ⟨G, A, hb, hrg, hk6⟩
  · simp only [Dd.row] at hb hal
    simp [Try.ntmps3, Try.results3, cSl, cp0, cn0, cn1, cn2, cn3, cI, cD, cR, hb, Dd.row, hal]
  · have hG0 := hk6 0 [d.row] rfl
    have hrg : RG 2 (G, A) := hrg
    replace hb : begM [.v (.int .i64 f), .v (.int .i64 sl), .fsl false 6 (l.map Dd.row)] [some (6, [d.row])] = some (.ptr 2 5 0 0, G) := hb
    have hsp : spacesM [.ptr 2 5 0 0] G = _ := spaces_ev hrg
    have hle := sps_le hrg
    obtain ⟨Z, hZ⟩ : ∃ x, sortZ (A.sps.map (·.1)) = x := ⟨_, rfl⟩
    obtain ⟨n, hn⟩ : ∃ x, A.sps.length = x := ⟨_, rfl⟩
    have hZl : Z.length = n := by rw [← hZ, sortZ_len, ← hn]; simp
    have hZm : ∀ t, t ∈ Z ↔ has A t := fun t => by rw [← hZ, (sortZ_perm _).mem_iff, has_key]
    rw [hZ, hn] at hsp
    have k1 : K6 G (G ++ none :: outZK Z n) := K6.app
    obtain ⟨HH, hHH⟩ : ∃ x, G ++ none :: outZK Z n = x := ⟨_, rfl⟩
    have r1 : RG 2 (HH, A) := by rw [← hHH]; exact rg_app hrg
    have hcont : C.pure 6 [cold (view HH 4 (outZ G.length n)), .v (.int .i64 other)] = some (.v (.bool (decide (other ∈ Z)))) := by
      rw [ch0, ← hHH]
      have hdi : (cInt .i64).dec (.v (.int .i64 other)) = some other := by simp [cInt, Cod.plain, intDec]
      simp only [argM, outZ_dec hZl, hdi, finM]
      rw [if_pos (by omega)]
    rw [hHH] at hsp k1
    have hH0 := k1 0 _ hG0
    have hvi : ∀ (Y : Heap) (v : Value), cold (view Y 4 (.v v)) = .v v := fun Y v => by simp [view, cold]
    have hvs : ∀ (Y : Heap) (L : List (List Int)), cold (view Y 4 (.fsl true 1 (L.map (bspR true)))) = .fsl false 1 (L.map (bspR false)) := fun Y L => by
      have := bspR_cold (o := true) L
      simp only [view, cold, this]
    have gG := (List.getElem?_eq_some_iff.1 hG0).2
    obtain ⟨g0, _⟩ := List.getElem?_eq_some_iff.1 hG0
    by_cases g1 : other = d.space
    · simp only [Dd.row] at hb hal hG0
      simp [Try.ntmps3, Try.results3, cSl, cp0, cn0, cn1, cn2, cn3, cI, cD, cR, -view, -cold, hb, Dd.row, hal, hG0, g1]
      simp [view]
    have hbe : (other == d.space) = false := by simp [g1]
    by_cases g2 : other ∈ Z
    case neg =>
      simp only [Dd.row] at hb hal hG0
      simp [Try.ntmps3, Try.results3, cSl, cp0, cn0, cn1, cn2, cn3, cI, cD, cR, -view, -cold, hb, Dd.row, hal, hG0, g1, hbe, hsp, hcont, hvi, g2]
      try simp [view]
    obtain ⟨G1, L1, hw, lk, r2⟩ := whole_ev r1 other
    have hkw : K6 HH G1 := by
      simp only [wholeM, rg_at r1, Option.map_some, Option.some.injEq, Prod.mk.injEq] at hw
      obtain ⟨_, rfl⟩ := hw
      have := like6 r1 (Like.whl A other 64) []
      rw [List.append_nil] at this
      exact this.trans K6.app
    have hG1 := hkw 0 _ hH0
    obtain ⟨G2, A2, hdo, r3, hE⟩ := do_row r2 d hwd
    obtain ⟨G3, L3, hw3, _, _⟩ := whole_ev r3 other
    have e1 : seenL A2 other 64 = seenL A other 64 := seenL_eq (fun k => by
      rw [(hE.ot other g1 ((hZm other).1 g2)).2 k]
      exact vw_like lk other k) 64
    rw [e1] at hw3
    have hsm : C.pure 10 [.fsl false 1 ((seenL A other 64).map (bspR false)), .fsl false 1 ((seenL A other 64).map (bspR false))] = some (.v (.bool true)) := by
      rw [ch1]
      have hde : (cSl rBs).dec (.fsl false 1 ((seenL A other 64).map (bspR false))) = some (seenL A other 64) := bspR_mapM _
      simp only [argM, hde, finM]
      rw [if_pos ⟨by rw [seenL_len]; omega, seenL_le hrg other 64⟩]
      simp
    simp only [Dd.row] at hb hal hG0 hG1 hdo
    simp [Try.ntmps3, Try.results3, cSl, cp0, cn0, cn1, cn2, cn3, cI, cD, cR, -view, -cold, hb, Dd.row, hal, hG0, g1, hbe, hsp, hcont, hvi, hvs, g2, hw, hG1, hdo, hw3, hsm]
    simp [view]
end Go.Proofs.Ytegjbfcgbfnldab
