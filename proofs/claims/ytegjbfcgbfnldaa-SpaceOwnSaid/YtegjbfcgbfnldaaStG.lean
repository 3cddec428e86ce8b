/- The statement SpaceOwn. -/
import Derived.Test.YtegjbfcgbfnldaaStD
namespace Go.Proofs.Ytegjbfcgbfnldaa
open Go.AI
set_option maxHeartbeats 2000000
set_option maxRecDepth 100000
set_option linter.unusedSimpArgs false
set_option linter.unusedVariables false
attribute [local simp] wpA wpX RunA RunD runF foot footP footB idsA bare apart runL step1 gsel_f gsel_t gsel_s res_same res_and1 res_and2 res_and3 res_and4 res_and5 res_and6 res_false res_true res_v res_ptr res_fptr res_osl res_xsl soft aAppendZ aCap ovlI ovlJ res_fsl res_esl res_agg res_tup res_fn res_junk res_anyb aPick hk imp_left iteV dstOk guardOk astep astepE AI.ev AI.look AI.put envOf aBox cellsOf allOne allOneA oneA Value.oneCell' Value.cells newObj' aFieldAddr aLoad obj readAt thenA blockA condA retA resA tupA view hot hotC hotR depthV cAgg cInt cBool mkAgg allV aAlloc aBuild fillA writeAt aStore isAggA aField idx aIndexAddr aIndex bnd aSlice aExtract aLen aBuiltin aCall isStatic eqAgg eqTy eqC ev_add ev_sub ev_mul ev_quo ev_rem ev_and ev_or ev_xor ev_andNot ev_shl ev_shr ev_eql ev_neq ev_lss ev_leq ev_gtr ev_geq ev_agg w64 wu32 wu8 ev_not ev_neg Cod.plain RCod.plain argM finM cold coldC coldR goInt intDec boolDec aggDec Weaker heapW lowA lowC Again slDec undef aBuildSlice setRows aAppend rowsOf aMakeSlice aClear aCopy softer_self softer_nil valsOf ev_min2 ev_max2 hotR_set hotR_append take_map_set irow_cold irow_mapM irow_mapMc irow_view irow_viewc irow_hotR irow_ren irow_renc irow_low WeakT heapT thOf ren renC AgainT NextF NextT fnDec cFn rNil selfLt natLt0 natLt1 getLastMap frame0 frame1 own0 own1 argG finG tau tauI tauO tauC bareA bareC bareH irow_tau irow_tauc irow_bare irow_flat irow_bareR ownA_nil ownT_nil ownA_c ownT_c ownA_s ownT_s takeMapLen footC plainA noId noIdC cloneF frame0F frame1F insertF replaceI replaceF cellDec rCell fpDec cFp rTwo deleteF allV_oA oneA_oA res_oA RunR RunE runFT footAt hotR_cat tmodN aEqH aSliceA fxSz3 fxBy3 fxAg3 fxZe3 fxSz4 fxAg4 fxSz5 fxBy5 fxAg5 fxZe5 fxSl22 fxAr22 fxSz26 fxAg26 fxZe26 fxSz28 fxBy28 fxAg28 fxZe28 fxSl28 fxAr28 fxSl51 fxAr51 fxSl58 fxAr58 fxSz69 fxAg69 fxZe69 fxFi69x0 fxFi69x1 fxFi69x2 fxFi69x3 fxFi69x4 fxFi69x5 fxSz71 fxBy71 fxAg71 fxZe71 fxSz73 fxAg73 fxZe73 fxFi73x0 fxFi73x1 fxPl73 fxZe75 fxSz76 fxAg76 fxSl76 fxAr76 fxAg77 fxZe79 fxFi79x0 fxFi79x1 fxFi79x2 fxFi79x3 fxFi79x4 fxPl79 fxSz82 fxAg82 fxZe82 fxSl82 fxAr82 fxPl82 fxSl87 fxAr87 fxSz91 fxZe91 fxFi91x0 fxFi91x1 fxFi91x2 fxFi91x3 fxPl91 fxCv3x36 fxCv36x3 fxEb4 fxNb4 fxLn28 fxNe28 fxOe28 fxXe28 fxLn58 fxNe58 fxOe58 fxXe58 fxLn76 fxFm15 fxFm16 fxFi16 fxFm17 fxFm18 fxFm19 fxFi19 fxFm20 fxFi20 fxFm21 fxFm22 fxFm23 fxFm24 fxFm25 fxFi25 fxFm26 fxFm27 fxFm28 fxFi28 fxFm29 fxFi29 fxFm30 fxFm31 fxFm32 fxFm33 fxFi33 fxFm34 fxFm35 fxFm36 fxFm37 fxFm38 fxFi38 fxFm39 fxFm40 fxFm41 fxFi41 fxFm42 fxFm43 fxFm44 fxFi44 fxFm45 fxFi45 fxFm46 fxFm47 fxFm48 fxFm49 fxFi49 fxFm50 fxFi50 fxFm51 fxFi51 fxFm52 fxFi52 fxFm53 fxFm54 fxFi54 fxFm55 fxFi55 fxFm56 fxFm57 fxFi57 fxFm58 fxFi58 fxFm61 fxFm62 fxFi62 fxFm63 fxFi63 fxFm64 fxFm65 fxFi65 fxFm77 fxFi77
attribute [local simp] pgRow_len pg16 pg17 pg18 pg16' pg17' pg18' ww16 ww17 ww18 keyI_ok aLookup aMapUpdate aDelete lkRes bin_mn spV enV Try.underlying75 Try.underlying77
attribute [local simp] Dd.eta Dd.dec_row Dd.dec_hrow
attribute [local simp] bin_pM bin_pMM rDd_sz rDd_enc
theorem clByte : InlOk Try.prog 27 (cloneI 1) := by
  refine inl_soft Try.func27 rfl ?_
  intro args H r H' hr
  rcases cloneI_some hr with ⟨o, rows, rfl, hl, hc⟩ | ⟨id, st, k, kc, rows, rfl, hob, hle, hl, hc⟩ | ⟨rfl, rfl, rfl⟩
  · refine ⟨by simp [Try.ntmps27], wpA_sound noOrc_ok fxMix _ _ _ _ (by kernel_rfl) ?_⟩
    rcases hc with ⟨rfl, rfl, rfl⟩ | ⟨h0, rfl, rfl⟩
    · simp [Try.ntmps27, Try.results27, noOrc]
    · simp [Try.ntmps27, Try.results27, h0, hl, noOrc]
  · refine ⟨by simp [Try.ntmps27], wpA_sound noOrc_ok fxMix _ _ _ _ (by kernel_rfl) ?_⟩
    have hob' := obj_get hob
    have e1 : min k (rows.length - st) = k := by omega
    have e2 : st + k ≤ rows.length := hle
    have e3 : st ≤ rows.length := by omega
    rcases hc with ⟨rfl, rfl, rfl⟩ | ⟨h0, rfl, rfl⟩
    · simp [Try.ntmps27, Try.results27, noOrc, hob', e2, e3]
    · simp [Try.ntmps27, Try.results27, hl, noOrc, hob', e1, e2, h0]
  · refine ⟨by simp [Try.ntmps27], wpA_sound noOrc_ok fxMix _ _ _ _ (by kernel_rfl) ?_⟩
    simp [Try.ntmps27, Try.results27, noOrc]
theorem irow_dec16 (d : List Int) : List.mapM (irowDec .u8) (coldR (d.map (irow .u8))) = some d := by
  rw [irow_cold]
  exact mapM_dec (rI .u8) d
theorem own_f1 {n0 : Nat} {ρ ρ' : Env} {Y : Heap} {o : Option (Nat × List Row)} {dd : List Int} (hd : dd.length = 16) (hl : ∀ r ∈ dd.map (irow .u8), r.all (lowA 0) = true) (h16 : AI.look ρ 16 = .osl (Y.length + 1) 1 0 16 16) (he : ∀ p ∈ ρ', AI.look ((16, .fsl true 1 (dd.map (irow .u8))) :: ρ) p.1 = p.2) :
    Ent n0 (ρ', Y ++ [o, none]) (ρ, Y ++ [o, some (1, dd.map (irow .u8))]) := by
  have h := Ent.frzE (n0 := n0) (t := 16) (n := Y.length + 1) (sz := 1) (kc := 16) (len := 16) (ρ := ρ) (H := Y ++ [o, some (1, dd.map (irow .u8))]) (rows := dd.map (irow .u8)) (by unfold obj; rw [List.getElem?_append_right (by omega)]; simp) (by simp [hd]) hl h16
  have hs : (Y ++ [o, some (1, dd.map (irow .u8))]).set (Y.length + 1) none = Y ++ [o, none] := by
    rw [List.set_append_right _ _ (by omega)]; simp
  rw [hs] at h
  exact (Ent.env he).trans h
theorem own_f2 {n0 : Nat} {ρ ρ' : Env} {Y : Heap} {o : Option (Nat × List Row)} {dd da : List Int} (hd : dd.length = 16) (hl : ∀ r ∈ dd.map (irow .u8), r.all (lowA 0) = true) (hl2 : ∀ r ∈ da.map (irow .u8), r.all (lowA 0) = true) (h16 : AI.look ρ 16 = .osl (Y.length + 1) 1 0 16 16) (h17 : AI.look ρ 17 = .osl (Y.length + 2) 1 0 da.length da.length)
    (he : ∀ p ∈ ρ', AI.look ((17, .fsl true 1 (da.map (irow .u8))) :: (16, .fsl true 1 (dd.map (irow .u8))) :: ρ) p.1 = p.2) :
    Ent n0 (ρ', Y ++ [o, none, none]) (ρ, Y ++ [o, some (1, dd.map (irow .u8)), some (1, da.map (irow .u8))]) := by
  have h := Ent.frzE (n0 := n0) (t := 16) (n := Y.length + 1) (sz := 1) (kc := 16) (len := 16) (ρ := ρ) (H := Y ++ [o, some (1, dd.map (irow .u8)), some (1, da.map (irow .u8))]) (rows := dd.map (irow .u8)) (by unfold obj; rw [List.getElem?_append_right (by omega)]; simp) (by simp [hd]) hl h16
  have hs : (Y ++ [o, some (1, dd.map (irow .u8)), some (1, da.map (irow .u8))]).set (Y.length + 1) none = Y ++ [o, none, some (1, da.map (irow .u8))] := by
    rw [List.set_append_right _ _ (by omega)]; simp
  rw [hs] at h
  have h2 := Ent.frzE (n0 := n0) (t := 17) (n := Y.length + 2) (sz := 1) (kc := da.length) (len := da.length) (ρ := (16, .fsl true 1 (dd.map (irow .u8))) :: ρ) (H := Y ++ [o, none, some (1, da.map (irow .u8))]) (rows := da.map (irow .u8)) (by unfold obj; rw [List.getElem?_append_right (by omega)]; simp) (by simp) hl2 (by simpa [AI.look] using h17)
  have hs2 : (Y ++ [o, none, some (1, da.map (irow .u8))]).set (Y.length + 2) none = Y ++ [o, none, none] := by
    rw [List.set_append_right _ _ (by omega)]; simp
  rw [hs2] at h2
  exact ((Ent.env he).trans h2).trans h
theorem own_pure : PureOk Try.prog 7 (argM (cInt .i64) fun f => argM (cInt .i64) fun sl => argM (cSl rDd) fun l => argM (cInt .i64) fun s => argM (cInt .i64) fun page => argM (cSl (rI .u8)) fun data => finM (if goodL l then some (.v (.bool true)) else none)) := by
  refine pure6 Try.func7 rfl ?_
  rintro f sl l s page data r hr
  by_cases hc : goodL l
  case neg => rw [if_neg hc] at hr; cases hr
  rw [if_pos hc] at hr
  simp only [Option.some.injEq] at hr
  subst hr
  refine body_gen (((((((noOrc_ok.withP spaces_pure).withP good_pure).withP byEq_pure).withI begun_inl).withI put_inl).withI read_inl).withI clByte) fxMix (by kernel_rfl) (by simp [Try.ntmps7]) ?_
  intro C cP cI cN cD cF cA cR cL
  have cp0 := orcP spaces_pure (C := C) (by rw [cP]; rfl)
  have cp1 := orcP good_pure (C := C) (by rw [cP]; rfl)
  have cp2 := orcP byEq_pure (C := C) (by rw [cP]; rfl)
  have cn0 := orcI begun_inl (C := C) (by rw [cN]; rfl)
  have cn1 := orcI put_inl (C := C) (by rw [cN]; rfl)
  have cn2 := orcI read_inl (C := C) (by rw [cN]; rfl)
  have cn3 := orcI clByte (C := C) (by rw [cN]; rfl)
  replace cI := fun g => congrFun cI g
  simp only [Orc.withP, Orc.withI, Orc.withF, Orc.withD, Orc.withA, Orc.withR, Orc.withC, noOrc] at cI
  replace cR : C.rd = fun _ => none := cR
  replace cD : C.dyn = fun _ => [] := cD
  clear cP cN cF cA
  rcases begun_ev (f := f) (s := sl) hc with hb | ⟨G, A, hb, hrg, hf, hs⟩
  · simp [Try.ntmps7, Try.results7, cSl, cp0, cp1, cp2, cn0, cn1, cn2, cn3, cI, cD, cR, hb]
  · obtain ⟨e, G2, A2, hput, r2, hE, hcs⟩ := put_ev hrg (s := s) (at_ := page) (rights := 1) (d := data)
    have hput' : putM [.ptr 1 5 0 0, .v (.int .i64 s), .v (.int .i64 page), .v (.int .i64 1), .fsl false 1 (data.map (irow .u8))] G = some (.v (.int .i64 e), G2) := by
      have hbt : bytesAt G (.fsl false 1 (data.map (irow .u8))) = some data := by1_of data
      have hrp : repAt G 1 = some A := rg_at hrg
      simp only [putM, hbt, Option.map_some, hrp, Option.bind_some, hput]
    rcases hcs with ⟨rfl, _, hsp, hd16, hv⟩ | ⟨he, rfl, _⟩
    case inr =>
      simp [Try.ntmps7, Try.results7, cSl, cp0, cp1, cp2, cn0, cn1, cn2, cn3, cI, cD, cR, rI, hb, hput', he]
    unfold spanBad at hsp
    have hvp := hv page
    rw [if_pos rfl] at hvp
    obtain ⟨Y, L', hrd, lk, r3⟩ := pg_read r2 hvp rfl
    have w16 : IntKind.i64.wrap (page * 16) = page * 16 := w64 (by omega) (by omega)
    have hdl : (pad data).length = 16 := pad_len hd16
    generalize pad data = dd at *
    have hl2 : data.length ≤ 4294967296 := by omega
    have hl3 : ¬ 4294967296 < data.length := by omega
    have hlow : ∀ d : List Int, ∀ r ∈ d.map (irow .u8), r.all (lowA 0) = true := fun d r hr => by obtain ⟨z, _, rfl⟩ := List.mem_map.1 hr; rfl
    have htk : List.take 16 (dd.map (irow .u8)) = dd.map (irow .u8) := List.take_of_length_le (by simp [hdl])
    by_cases hz : data = []
    · subst hz
      simp only [List.map_nil] at hput'
      simp [Try.ntmps7, Try.results7, cSl, cp0, cp1, cp2, cn0, cn1, cn2, cn3, cI, cD, cR, rI, hb, hput', hrd, w16, cloneI, obj, List.getElem?_append, hdl, htk]
      refine loop_forE 16 (fun k (D : List Int) => ([(3, .v (.int .i64 s)), (4, .v (.int .i64 page)), (5, .fsl false 1 []), (13, .ptr 1 5 0 0), (14, .osl Y.length 1 0 16 16), (15, .v (.int .i64 0)), (16, .fsl true 1 (dd.map (irow .u8))), (17, .esl), (53, .v (.int .i64 16)), (54, .v (.int .i64 k))], Y ++ (some (1, D.map (irow .u8)) :: [none]))) (fun k D => D.length = 16) dd (fun k _ hk _ => by omega) hdl ?_ ?_ ?_
      · exact own_f1 hdl (hlow dd) (by simp) (by simp)
      · rintro k D hk hD hw
        have hk16 : (k : Int) < 16 := by omega
        have hkD : k < D.length := by omega
        simp [Try.ntmps7, Try.results7, cSl, cp0, cp1, cp2, cn0, cn1, cn2, cn3, cI, cD, cR, hk, hw, hk16, hkD, hD, List.getElem?_append, List.set_append, irow]
        refine ⟨D.set k (IntKind.u8.wrap (D[k] + 1)), by simpa using hD, ?_⟩
        have hms : (D.set k (IntKind.u8.wrap (D[k] + 1))).map (irow .u8) = (D.map (irow .u8)).set k [.v (.int .u8 (IntKind.u8.wrap (D[k] + 1)))] := List.map_set
        simp only [hms]
        exact Ent.env (by simp)
      · rintro D hD
        have hx := rg_app (K := some (1, D.map (irow .u8)) :: [none]) r3
        obtain ⟨X2, L2, hrd2, _, _⟩ := pg_read hx (s := s) (k := page) (d := dd) (rg := 1) (by rw [vw_like lk]; exact hvp) rfl
        have htk : List.take 16 (dd.map (irow .u8)) = dd.map (irow .u8) := List.take_of_length_le (by simp [hdl])
        have hid : irowDec .i64 [.v (.int .i64 0)] = some 0 := rfl
        simp [Try.ntmps7, Try.results7, cSl, cp0, cp1, cp2, cn0, cn1, cn2, cn3, cI, cD, cR, hrd2, w16, rI, List.getElem?_append, htk, irow_dec16, hid, hdl, hl2, hl3]
    · have hz0 : ¬ data.length = 0 := fun e => hz (List.length_eq_zero_iff.1 e)
      simp [Try.ntmps7, Try.results7, cSl, cp0, cp1, cp2, cn0, cn1, cn2, cn3, cI, cD, cR, rI, hb, hput', hrd, w16, cloneI, obj, List.getElem?_append, hdl, htk, hl2, hz]
      refine loop_forE 16 (fun k (D : List Int) => ([(3, .v (.int .i64 s)), (4, .v (.int .i64 page)), (5, .fsl false 1 (data.map (irow .u8))), (13, .ptr 1 5 0 0), (14, .osl Y.length 1 0 16 16), (15, .v (.int .i64 0)), (16, .fsl true 1 (dd.map (irow .u8))), (17, .fsl true 1 (data.map (irow .u8))), (53, .v (.int .i64 16)), (54, .v (.int .i64 k))], Y ++ (some (1, D.map (irow .u8)) :: [none, none]))) (fun k D => D.length = 16) dd (fun k _ hk _ => by omega) hdl ?_ ?_ ?_
      · exact own_f2 hdl (hlow dd) (hlow data) (by simp) (by simp) (by simp)
      · rintro k D hk hD hw
        have hk16 : (k : Int) < 16 := by omega
        have hkD : k < D.length := by omega
        simp [Try.ntmps7, Try.results7, cSl, cp0, cp1, cp2, cn0, cn1, cn2, cn3, cI, cD, cR, hk, hw, hk16, hkD, hD, List.getElem?_append, List.set_append, irow]
        refine ⟨D.set k (IntKind.u8.wrap (D[k] + 1)), by simpa using hD, ?_⟩
        have hms : (D.set k (IntKind.u8.wrap (D[k] + 1))).map (irow .u8) = (D.map (irow .u8)).set k [.v (.int .u8 (IntKind.u8.wrap (D[k] + 1)))] := List.map_set
        simp only [hms]
        exact Ent.env (by simp)
      · rintro D hD
        have hx := rg_app (K := some (1, D.map (irow .u8)) :: [none, none]) r3
        obtain ⟨X2, L2, hrd2, _, _⟩ := pg_read hx (s := s) (k := page) (d := dd) (rg := 1) (by rw [vw_like lk]; exact hvp) rfl
        have htk : List.take 16 (dd.map (irow .u8)) = dd.map (irow .u8) := List.take_of_length_le (by simp [hdl])
        have hid : irowDec .i64 [.v (.int .i64 0)] = some 0 := rfl
        simp [Try.ntmps7, Try.results7, cSl, cp0, cp1, cp2, cn0, cn1, cn2, cn3, cI, cD, cR, hrd2, w16, rI, List.getElem?_append, htk, irow_dec16, hid, hdl, hl2, hl3]
end Go.Proofs.Ytegjbfcgbfnldaa
