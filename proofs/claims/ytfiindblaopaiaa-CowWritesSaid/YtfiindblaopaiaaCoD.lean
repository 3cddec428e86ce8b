/- Package cow: More, Write. -/
import Derived.Test.YtfiindblaopaiaaCoC
namespace Go.Proofs.Ytfiindblaopaiaa
open Go.AI
set_option maxHeartbeats 2000000
set_option maxRecDepth 100000
set_option linter.unusedSimpArgs false
set_option linter.unusedVariables false
attribute [local simp] wpA wpX RunA RunD runF foot footP footB idsA bare apart runL step1 gsel_f gsel_t gsel_s res_same res_and1 res_and2 res_and3 res_and4 res_and5 res_and6 res_false res_true res_v res_ptr res_fptr res_osl res_xsl soft aAppendZ aCap ovlI ovlJ res_fsl res_esl res_agg res_tup res_fn res_junk res_anyb aPick hk imp_left iteV dstOk guardOk astep astepE AI.ev AI.look AI.put envOf aBox cellsOf allOne allOneA oneA Value.oneCell' Value.cells newObj' aFieldAddr aLoad obj readAt thenA blockA condA retA resA tupA view hot hotC hotR depthV cAgg cInt cBool mkAgg allV aAlloc aBuild fillA writeAt aStore isAggA aField idx aIndexAddr aIndex bnd aSlice aExtract aLen aBuiltin aCall isStatic eqAgg eqTy eqC ev_add ev_sub ev_mul ev_quo ev_rem ev_and ev_or ev_xor ev_andNot ev_shl ev_shr ev_eql ev_neq ev_lss ev_leq ev_gtr ev_geq ev_agg w64 wu32 wu8 ev_not ev_neg Cod.plain RCod.plain argM finM cold coldC coldR goInt intDec boolDec aggDec Weaker heapW lowA lowC Again slDec undef aBuildSlice setRows aAppend rowsOf aMakeSlice aClear aCopy softer_self softer_nil valsOf ev_min2 ev_max2 hotR_set hotR_append take_map_set irow_cold irow_mapM irow_mapMc irow_view irow_viewc irow_hotR irow_ren irow_renc irow_low WeakT heapT thOf ren renC AgainT NextF NextT fnDec cFn rNil selfLt natLt0 natLt1 getLastMap frame0 frame1 own0 own1 argG finG tau tauI tauO tauC bareA bareC bareH irow_tau irow_tauc irow_bare irow_flat irow_bareR ownA_nil ownT_nil ownA_c ownT_c ownA_s ownT_s takeMapLen footC plainA noId noIdC cloneF frame0F frame1F insertF replaceI replaceF cellDec rCell fpDec cFp rTwo deleteF allV_oA oneA_oA res_oA RunR RunE runFT footAt hotR_cat tmodN fxSz2 fxBy2 fxAg2 fxZe2 fxSl2 fxAr2 fxPl2 fxSz3 fxBy3 fxAg3 fxZe3 fxSl3 fxAr3 fxPl3 fxSz4 fxBy4 fxAg4 fxZe4 fxSl4 fxAr4 fxPl4 fxSz5 fxBy5 fxAg5 fxZe5 fxSl5 fxAr5 fxPl5 fxSz9 fxBy9 fxAg9 fxZe9 fxSl9 fxAr9 fxPl9 fxSz12 fxBy12 fxAg12 fxZe12 fxSl12 fxAr12 fxPl12 fxSz13 fxBy13 fxAg13 fxZe13 fxSl13 fxAr13 fxFi13x0 fxFi13x1 fxPl13 fxSz21 fxBy21 fxAg21 fxZe21 fxSl21 fxAr21 fxPl21 fxSz22 fxBy22 fxAg22 fxZe22 fxSl22 fxAr22 fxPl22 fxSz23 fxBy23 fxAg23 fxZe23 fxSl23 fxAr23 fxFi23x0 fxFi23x1 fxPl23 fxSz24 fxBy24 fxAg24 fxZe24 fxSl24 fxAr24 fxFi24x0 fxFi24x1 fxPl24 fxSz25 fxBy25 fxAg25 fxZe25 fxSl25 fxAr25 fxFi25x0 fxFi25x1 fxPl25 fxSz26 fxBy26 fxAg26 fxZe26 fxSl26 fxAr26 fxFi26x0 fxFi26x1 fxPl26 fxSz27 fxBy27 fxAg27 fxZe27 fxSl27 fxAr27 fxPl27 fxSz34 fxBy34 fxAg34 fxZe34 fxSl34 fxAr34 fxPl34 fxSz37 fxBy37 fxAg37 fxZe37 fxSl37 fxAr37 fxPl37 fxSz45 fxBy45 fxAg45 fxZe45 fxSl45 fxAr45 fxFi45x0 fxFi45x1 fxPl45 fxSz46 fxBy46 fxAg46 fxZe46 fxSl46 fxAr46 fxFi46x0 fxFi46x1 fxPl46 fxSz48 fxBy48 fxAg48 fxZe48 fxSl48 fxAr48 fxPl48 fxSz49 fxBy49 fxAg49 fxZe49 fxSl49 fxAr49 fxPl49 fxSz50 fxBy50 fxAg50 fxZe50 fxSl50 fxAr50 fxFi50x0 fxFi50x1 fxPl50 fxSz51 fxBy51 fxAg51 fxZe51 fxSl51 fxAr51 fxFi51x0 fxFi51x1 fxPl51 fxSz57 fxBy57 fxAg57 fxZe57 fxSl57 fxAr57 fxPl57 fxSz69 fxBy69 fxAg69 fxZe69 fxSl69 fxAr69 fxPl69 fxSz70 fxBy70 fxAg70 fxZe70 fxSl70 fxAr70 fxPl70 fxSz92 fxBy92 fxAg92 fxZe92 fxSl92 fxAr92 fxPl92 fxSz107 fxBy107 fxAg107 fxZe107 fxSl107 fxAr107 fxPl107 fxSz108 fxBy108 fxAg108 fxZe108 fxSl108 fxAr108 fxFi108x0 fxPl108 fxSz111 fxBy111 fxAg111 fxZe111 fxSl111 fxAr111 fxPl111 fxSz115 fxBy115 fxAg115 fxZe115 fxSl115 fxAr115 fxPl115 fxSz120 fxBy120 fxAg120 fxZe120 fxSl120 fxAr120 fxPl120 fxEq26 fxEq70 fxCv2x2 fxCv2x3 fxCv2x5 fxCv2x12 fxCv2x21 fxCv2x27 fxCv2x111 fxCv3x2 fxCv3x3 fxCv3x5 fxCv3x12 fxCv3x21 fxCv3x27 fxCv3x111 fxCv5x2 fxCv5x3 fxCv5x5 fxCv5x12 fxCv5x21 fxCv5x27 fxCv5x111 fxCv12x2 fxCv12x3 fxCv12x5 fxCv12x12 fxCv12x21 fxCv12x27 fxCv12x111 fxCv21x2 fxCv21x3 fxCv21x5 fxCv21x12 fxCv21x21 fxCv21x27 fxCv21x111 fxCv27x2 fxCv27x3 fxCv27x5 fxCv27x12 fxCv27x21 fxCv27x27 fxCv27x111 fxCv111x2 fxCv111x3 fxCv111x5 fxCv111x12 fxCv111x21 fxCv111x27 fxCv111x111 fxEb4 fxNb4 fxLt9 fxLn22 fxNe22 fxNn22 fxOe22 fxOn22 fxXe22 fxXn22 fxLn34 fxNe34 fxNn34 fxOe34 fxOn34 fxXe34 fxXn34 fxLn37 fxNe37 fxNn37 fxOe37 fxOn37 fxXe37 fxXn37 fxLn48 fxNe48 fxNn48 fxOe48 fxOn48 fxXe48 fxXn48 fxLn49 fxNe49 fxNn49 fxOe49 fxOn49 fxXe49 fxXn49 fxLn57 fxNe57 fxNn57 fxOe57 fxOn57 fxXe57 fxXn57 fxLn69 fxNe69 fxNn69 fxOe69 fxOn69 fxXe69 fxXn69 fxLn92 fxNe92 fxNn92 fxOe92 fxOn92 fxXe92 fxXn92 fxFn3 fxFm3 fxFb3 fxFi3 fxFj3 fxFn4 fxFm4 fxFb4 fxFi4 fxFj4 fxFn5 fxFm5 fxFb5 fxFi5 fxFj5 fxFn6 fxFm6 fxFb6 fxFi6 fxFj6 fxFn7 fxFm7 fxFb7 fxFi7 fxFj7 fxFn8 fxFm8 fxFb8 fxFi8 fxFj8 fxFn9 fxFm9 fxFb9 fxFi9 fxFj9 fxFn10 fxFm10 fxFb10 fxFi10 fxFj10 fxFn11 fxFm11 fxFb11 fxFi11 fxFj11 fxFn12 fxFm12 fxFb12 fxFi12 fxFj12 fxFn13 fxFm13 fxFb13 fxFi13 fxFj13 fxFn14 fxFm14 fxFb14 fxFi14 fxFj14 fxFn15 fxFm15 fxFb15 fxFi15 fxFj15 fxFn16 fxFm16 fxFb16 fxFi16 fxFj16 fxFn17 fxFm17 fxFb17 fxFi17 fxFj17 fxFn18 fxFm18 fxFb18 fxFi18 fxFj18 fxFn19 fxFm19 fxFb19 fxFi19 fxFj19 fxFn20 fxFm20 fxFb20 fxFi20 fxFj20 fxFn21 fxFm21 fxFb21 fxFi21 fxFj21 fxFn22 fxFm22 fxFb22 fxFi22 fxFj22 fxFn23 fxFm23 fxFb23 fxFi23 fxFj23 fxFn24 fxFm24 fxFb24 fxFi24 fxFj24 fxFn25 fxFm25 fxFb25 fxFi25 fxFj25 fxFn26 fxFm26 fxFb26 fxFi26 fxFj26 fxFn27 fxFm27 fxFb27 fxFi27 fxFj27 fxFn28 fxFm28 fxFb28 fxFi28 fxFj28 fxFn29 fxFm29 fxFb29 fxFi29 fxFj29 fxFn30 fxFm30 fxFb30 fxFi30 fxFj30 fxFn31 fxFm31 fxFb31 fxFi31 fxFj31 fxFn32 fxFm32 fxFb32 fxFi32 fxFj32 fxFn33 fxFm33 fxFb33 fxFi33 fxFj33 fxFn34 fxFm34 fxFb34 fxFi34 fxFj34 fxFn35 fxFm35 fxFb35 fxFi35 fxFj35 fxFn36 fxFm36 fxFb36 fxFi36 fxFj36 fxFn37 fxFm37 fxFb37 fxFi37 fxFj37 fxFn38 fxFm38 fxFb38 fxFi38 fxFj38 fxFn39 fxFm39 fxFb39 fxFi39 fxFj39 fxFn40 fxFm40 fxFb40 fxFi40 fxFj40 fxFn41 fxFm41 fxFb41 fxFi41 fxFj41 fxFn42 fxFm42 fxFb42 fxFi42 fxFj42 fxFn43 fxFm43 fxFb43 fxFi43 fxFj43 fxFn44 fxFm44 fxFb44 fxFi44 fxFj44 fxFn45 fxFm45 fxFb45 fxFi45 fxFj45 fxFn46 fxFm46 fxFb46 fxFi46 fxFj46 fxFn47 fxFm47 fxFb47 fxFi47 fxFj47 fxFn48 fxFm48 fxFb48 fxFi48 fxFj48 fxFn49 fxFm49 fxFb49 fxFi49 fxFj49 fxFn50 fxFm50 fxFb50 fxFi50 fxFj50 fxFn51 fxFm51 fxFb51 fxFi51 fxFj51 fxFn52 fxFm52 fxFb52 fxFi52 fxFj52 fxFn53 fxFm53 fxFb53 fxFi53 fxFj53 fxFn54 fxFm54 fxFb54 fxFi54 fxFj54 fxFn55 fxFm55 fxFb55 fxFi55 fxFj55 fxFn56 fxFm56 fxFn57 fxFm57 fxFb57 fxFi57 fxFj57 fxFn58 fxFm58 fxFb58 fxFi58 fxFj58 fxFn59 fxFm59 fxFn60 fxFm60 fxFb60 fxFi60 fxFj60 fxFn61 fxFm61 fxFb61 fxFi61 fxFj61 fxFn62 fxFm62 fxFb62 fxFi62 fxFj62 fxFn63 fxFm63 fxFb63 fxFi63 fxFj63 fxFn64 fxFm64 fxFb64 fxFi64 fxFj64 fxFn65 fxFm65 fxFb65 fxFi65 fxFj65 fxFn66 fxFm66 fxFb66 fxFi66 fxFj66
attribute [local simp] rSp_sz spR_cold spR_dec spR_mapM spR_mapMc spR_view spR_viewc spR_hotR spR_ren spR_renc spR_low spR_get spR_len Room.eta Room.dec_row Room.dec_hrow
attribute [local simp] cp_bare cp_bareH cp_tau cp_tauO
theorem set_rows {H : Heap} {sp : List (List Int)} {l : List Int} {x : AVal} {k : Nat} (hin : ∀ (i : Nat) (hi : i < sp.length), i ≠ k → sp[i] ≠ [] → obj H (i + 6) = some (1, sp[i].map (irow .i64))) (hx : ShowsA H 1 (.fsl true 1 (l.map (irow .i64))) x) :
    ∀ (i : Nat) (hi : i < (sp.set k l).length), ∃ y, ((ownR 1 6 sp).set k [x])[i]? = some [y] ∧ ShowsA H 1 (.fsl true 1 ((sp.set k l)[i].map (irow .i64))) y := by
  intro i hi
  have hi' : i < sp.length := by simpa using hi
  by_cases h : i = k
  · subst h
    refine ⟨x, by rw [List.getElem?_set_self (by rw [ownR_len]; exact hi')], ?_⟩
    simpa using hx
  · refine ⟨_, by rw [List.getElem?_set_ne (fun e => h e.symm)]; exact ownR_get hi', ?_⟩
    rw [List.getElem_set_ne (fun e => h e.symm)]
    exact shows_oA (d := 0) (hin i hi' h) (fun e => irow_view H 0 e) irw_hot
def cowMore (r : Room) (s b : Int) : Except Int Room :=
  if cowSp r s = 0 then (if (r.spaces[s.toNat]?.getD []).length = 8 then .error 6 else .ok ⟨r.cells ++ [b], r.spaces.set s.toNat (r.spaces[s.toNat]?.getD [] ++ [(r.cells.length : Int)])⟩) else .error (cowSp r s)
theorem cowMore_pure : PureOk Try.prog 34 (argM (cAgg rRoom) fun q => argM (cInt .i64) fun s => argM (cInt .u8) fun b => finM (some (roomE (cowMore q s b)))) := by
  refine pureS3 Try.func34 rfl ?_
  rintro q s b r' hr
  simp only [Option.some.injEq] at hr
  subst hr
  refine bodyS_of (((noOrc_ok.withP cowSp_pure).withIF cpy_inl frame0_loc).withD (fun i => if i = 7 then [(1,11),(4,11),(7,11),(1,12)] else [])) fxMix (by kernel_rfl) (by simp [Try.ntmps34]) ?_
  intro C cP cI cN cD cF cA
  have cp0 := orcP cowSp_pure (C := C) (by rw [cP]; rfl)
  have cn0 := orcI cpy_inl (C := C) (by rw [cN]; rfl)
  replace cI := fun g => congrFun cI g
  simp only [Orc.withP, Orc.withI, Orc.withF, Orc.withD, Orc.withA, noOrc] at cI
  replace cD : C.dyn = fun i => if i = 7 then [(1,11),(4,11),(7,11),(1,12)] else [] := cD
  replace cF := fun g => congrFun cF g
  simp only [Orc.withP, Orc.withI, Orc.withF, Orc.withD, Orc.withA, noOrc] at cF
  replace cA : C.alt = fun _ => [] := cA
  clear cP cN
  obtain ⟨cs, sp⟩ := q
  unfold cowMore
  simp only
  by_cases h0 : cowSp ⟨cs, sp⟩ s = 0
  case neg =>
    simp [Try.ntmps34, Try.results34, cSl, cp0, cn0, cI, cD, cF, cA, rI, rRoom, roomDec, Room.row, h0, roomE]
    exact showsV _
  obtain ⟨hck, k, rfl, hk⟩ := sp_ok h0
  obtain ⟨⟨g1, g2⟩, g3, g4⟩ := cow_ok hck
  simp only at hk g1 g2 g3 g4
  rw [if_pos h0]
  have hgk : (sp[((k : Nat) : Int).toNat]?.getD []) = sp[k] := by simp [hk]
  rw [hgk, Int.toNat_natCast]
  have hg0 : (sp.map (spR false))[k]? = some (spR false sp[k]) := by simp [hk]
  by_cases h8 : sp[k].length = 8
  · have h8' : (sp[k].length : Int) = 8 := by omega
    rw [if_pos h8]
    simp [Try.ntmps34, Try.results34, cSl, cp0, cn0, cI, cD, cF, cA, rI, rRoom, roomDec, Room.row, h0, hk, h8, h8', roomE]
    exact showsV _
  have h8' : ¬ (sp[k].length : Int) = 8 := by omega
  have hcond : (∀ l, l ∈ sp → l.length ≤ 8) = True := eq_true fun l hl => (g3 l hl).1
  rw [if_neg h8]
  simp [Try.ntmps34, Try.results34, cSl, cp0, cn0, cI, cD, cF, cA, rI, rRoom, roomDec, Room.row, h0, hk, h8, h8', g1, g2, hcond]
  have hne0 : ¬ sp.length = 0 := by omega
  have hne : ¬ sp = [] := fun e => hne0 (by rw [e]; rfl)
  have hA5 : oA 5 1 sp.length = .osl 5 1 0 sp.length sp.length := oA_pos hne0
  have hO5 : oT 1 (ownR 1 6 sp) = some (1, ownR 1 6 sp) := oT_pos (ownR_ne hne)
  have hg2 : (ownR 1 6 sp)[k]'(by rw [ownR_len]; exact hk) = [oA (k + 6) 1 sp[k].length] := by
    have := ownR_get (sz := 1) (c := 6) hk
    rw [List.getElem?_eq_getElem (by rw [ownR_len]; exact hk)] at this
    simpa using this
  have hgH := ownH_get (sz := 1) (g := irow .i64) hk
  have n3 : ¬ sp.length + 1 < sp.length := by omega
  have hl8 : sp[k].length ≤ 4294967295 := by have := (g3 _ (List.getElem_mem hk)).1; omega
  have hc1 : ¬ cs.length + 1 ≤ cs.length := by omega
  have hc2 : cs.length + 1 ≤ 4294967296 := by omega
  by_cases hcs : cs = []
  · have hA4 : oA 4 1 cs.length = .esl := by simp [oA, hcs]
    have hT4 : oT 1 (cs.map (irow .u8)) = none := by simp [oT, hcs]
    by_cases hz : sp[k] = []
    · have hA6 : oA (k + 6) 1 sp[k].length = .esl := by simp [oA, hz]
      simp [Try.ntmps34, Try.results34, cSl, cp0, cn0, cI, cD, cF, cA, cpVal, cpHeap, hA4, hT4, hA5, hO5, hg2, hA6, ownR_len, ownH_len, hk, hne0, hc1, hc2, hl8, n3]
      simp only [roomE, hz, List.nil_append]
      refine showsT2 (room_fin (shows_osl (d := 1) (by simp [hcs]) ?_ (fun e => irow_view _ 1 e) irw_hot) (by simp) ?_ (by simp [ownR_len]) (set_rows (l := [(cs.length : Int)]) (x := .osl (sp.length + 1 + 1 + 1 + 1 + 1 + 1 + 1) 1 0 1 1) ?_ (shows_osl (d := 0) (by simp) ?_ (fun e => irow_view _ 0 e) irw_hot))) (showsV _)
      · simp [obj, ownH_len, List.getElem?_append_right, irow, hcs]
      · simp [obj, ownH_len, List.getElem?_append_right]
      ·
        intro i hi hik hnz
        have h1 := ownH_get (sz := 1) (g := irow .i64) hi
        have h3 : ∀ o, ((ownH 1 (irow .i64) sp).set k o)[i]? = some (oT 1 (sp[i].map (irow .i64))) := fun o => by
          rw [List.getElem?_set_ne (fun e => hik e.symm)]; exact h1
        have h2 : ∀ LL : Heap, (ownH 1 (irow .i64) sp ++ LL)[i]? = some (oT 1 (sp[i].map (irow .i64))) := fun LL => by
          rw [List.getElem?_append_left (by rw [ownH_len]; exact hi)]; exact h1
        have h4 : ∀ (o : Option (Nat × List Row)) (LL : Heap), ((ownH 1 (irow .i64) sp).set k o ++ LL)[i]? = some (oT 1 (sp[i].map (irow .i64))) := fun o LL => by
          rw [List.getElem?_append_left (by rw [List.length_set, ownH_len]; exact hi)]; exact h3 o
        simp [obj, h1, h2, h3, h4, oT, hnz]
      · simp [obj, ownH_len, List.getElem?_append_right, irow, hcs]
    ·
      have hA6 : oA (k + 6) 1 sp[k].length = .osl (k + 6) 1 0 sp[k].length sp[k].length := oA_pos (fun e => hz (List.length_eq_zero_iff.1 e))
      have hT6 : oT 1 (sp[k].map (irow .i64)) = some (1, sp[k].map (irow .i64)) := oT_pos (by simpa using hz)
      have hgH2 : (ownH 1 (irow .i64) sp)[k]'(by rw [ownH_len]; exact hk) = some (1, sp[k].map (irow .i64)) := by
        rw [List.getElem?_eq_getElem (by rw [ownH_len]; exact hk), hT6] at hgH
        simpa using hgH
      have hz0 : ¬ sp[k].length = 0 := fun e => hz (List.length_eq_zero_iff.1 e)
      have n1 : ¬ sp[k].length + 1 ≤ sp[k].length := by omega
      have hgL : ∀ LL : Heap, (ownH 1 (irow .i64) sp ++ LL)[k]? = some (some (1, sp[k].map (irow .i64))) := fun LL => by
        rw [List.getElem?_append_left (by rw [ownH_len]; exact hk), hgH, hT6]
      have hsL : ∀ (o : Option (Nat × List Row)) (LL : Heap), (ownH 1 (irow .i64) sp ++ LL).set k o = (ownH 1 (irow .i64) sp).set k o ++ LL := fun o LL => by
        rw [List.set_append_left _ _ (by rw [ownH_len]; exact hk)]
      have n2 : sp[k].length + 1 ≤ 4294967296 := by omega
      simp [Try.ntmps34, Try.results34, cSl, cp0, cn0, cI, cD, cF, cA, cpVal, cpHeap, hA4, hT4, hA5, hO5, hg2, hA6, hgH2, hgL, hsL, ownR_len, ownH_len, hk, hne0, n1, n2, hl8, hz, hz0, hc1, hc2, n3]
      simp only [roomE]
      refine showsT2 (room_fin (shows_osl (d := 1) (by simp [hcs]) ?_ (fun e => irow_view _ 1 e) irw_hot) (by simp) ?_ (by simp [ownR_len]) (set_rows (l := sp[k] ++ [(cs.length : Int)]) (x := .osl (sp.length + 1 + 1 + 1 + 1 + 1 + 1 + 1) 1 0 (sp[k].length + 1) (sp[k].length + 1)) ?_ (shows_osl (d := 0) (by simp) ?_ (fun e => irow_view _ 0 e) irw_hot))) (showsV _)
      · simp [obj, ownH_len, List.getElem?_append_right, irow, hcs]
      · simp [obj, ownH_len, List.getElem?_append_right]
      ·
        intro i hi hik hnz
        have h1 := ownH_get (sz := 1) (g := irow .i64) hi
        have h3 : ∀ o, ((ownH 1 (irow .i64) sp).set k o)[i]? = some (oT 1 (sp[i].map (irow .i64))) := fun o => by
          rw [List.getElem?_set_ne (fun e => hik e.symm)]; exact h1
        have h2 : ∀ LL : Heap, (ownH 1 (irow .i64) sp ++ LL)[i]? = some (oT 1 (sp[i].map (irow .i64))) := fun LL => by
          rw [List.getElem?_append_left (by rw [ownH_len]; exact hi)]; exact h1
        have h4 : ∀ (o : Option (Nat × List Row)) (LL : Heap), ((ownH 1 (irow .i64) sp).set k o ++ LL)[i]? = some (oT 1 (sp[i].map (irow .i64))) := fun o LL => by
          rw [List.getElem?_append_left (by rw [List.length_set, ownH_len]; exact hi)]; exact h3 o
        simp [obj, h1, h2, h3, h4, oT, hnz]
      · simp [obj, ownH_len, List.getElem?_append_right, irow, hcs]
  · have hA4 : oA 4 1 cs.length = .osl 4 1 0 cs.length cs.length := oA_pos (fun e => hcs (List.length_eq_zero_iff.1 e))
    have hT4 : oT 1 (cs.map (irow .u8)) = some (1, cs.map (irow .u8)) := oT_pos (by simpa using hcs)
    by_cases hz : sp[k] = []
    · have hA6 : oA (k + 6) 1 sp[k].length = .esl := by simp [oA, hz]
      simp [Try.ntmps34, Try.results34, cSl, cp0, cn0, cI, cD, cF, cA, cpVal, cpHeap, hA4, hT4, hA5, hO5, hg2, hA6, ownR_len, ownH_len, hk, hne0, hc1, hc2, hl8, n3]
      simp only [roomE, hz, List.nil_append]
      refine showsT2 (room_fin (shows_osl (d := 1) (by simp [hcs]) ?_ (fun e => irow_view _ 1 e) irw_hot) (by simp) ?_ (by simp [ownR_len]) (set_rows (l := [(cs.length : Int)]) (x := .osl (sp.length + 1 + 1 + 1 + 1 + 1 + 1 + 1) 1 0 1 1) ?_ (shows_osl (d := 0) (by simp) ?_ (fun e => irow_view _ 0 e) irw_hot))) (showsV _)
      · simp [obj, ownH_len, List.getElem?_append_right, irow, hcs]
      · simp [obj, ownH_len, List.getElem?_append_right]
      ·
        intro i hi hik hnz
        have h1 := ownH_get (sz := 1) (g := irow .i64) hi
        have h3 : ∀ o, ((ownH 1 (irow .i64) sp).set k o)[i]? = some (oT 1 (sp[i].map (irow .i64))) := fun o => by
          rw [List.getElem?_set_ne (fun e => hik e.symm)]; exact h1
        have h2 : ∀ LL : Heap, (ownH 1 (irow .i64) sp ++ LL)[i]? = some (oT 1 (sp[i].map (irow .i64))) := fun LL => by
          rw [List.getElem?_append_left (by rw [ownH_len]; exact hi)]; exact h1
        have h4 : ∀ (o : Option (Nat × List Row)) (LL : Heap), ((ownH 1 (irow .i64) sp).set k o ++ LL)[i]? = some (oT 1 (sp[i].map (irow .i64))) := fun o LL => by
          rw [List.getElem?_append_left (by rw [List.length_set, ownH_len]; exact hi)]; exact h3 o
        simp [obj, h1, h2, h3, h4, oT, hnz]
      · simp [obj, ownH_len, List.getElem?_append_right, irow, hcs]
    ·
      have hA6 : oA (k + 6) 1 sp[k].length = .osl (k + 6) 1 0 sp[k].length sp[k].length := oA_pos (fun e => hz (List.length_eq_zero_iff.1 e))
      have hT6 : oT 1 (sp[k].map (irow .i64)) = some (1, sp[k].map (irow .i64)) := oT_pos (by simpa using hz)
      have hgH2 : (ownH 1 (irow .i64) sp)[k]'(by rw [ownH_len]; exact hk) = some (1, sp[k].map (irow .i64)) := by
        rw [List.getElem?_eq_getElem (by rw [ownH_len]; exact hk), hT6] at hgH
        simpa using hgH
      have hz0 : ¬ sp[k].length = 0 := fun e => hz (List.length_eq_zero_iff.1 e)
      have n1 : ¬ sp[k].length + 1 ≤ sp[k].length := by omega
      have hgL : ∀ LL : Heap, (ownH 1 (irow .i64) sp ++ LL)[k]? = some (some (1, sp[k].map (irow .i64))) := fun LL => by
        rw [List.getElem?_append_left (by rw [ownH_len]; exact hk), hgH, hT6]
      have hsL : ∀ (o : Option (Nat × List Row)) (LL : Heap), (ownH 1 (irow .i64) sp ++ LL).set k o = (ownH 1 (irow .i64) sp).set k o ++ LL := fun o LL => by
        rw [List.set_append_left _ _ (by rw [ownH_len]; exact hk)]
      have n2 : sp[k].length + 1 ≤ 4294967296 := by omega
      simp [Try.ntmps34, Try.results34, cSl, cp0, cn0, cI, cD, cF, cA, cpVal, cpHeap, hA4, hT4, hA5, hO5, hg2, hA6, hgH2, hgL, hsL, ownR_len, ownH_len, hk, hne0, n1, n2, hl8, hz, hz0, hc1, hc2, n3]
      simp only [roomE]
      refine showsT2 (room_fin (shows_osl (d := 1) (by simp [hcs]) ?_ (fun e => irow_view _ 1 e) irw_hot) (by simp) ?_ (by simp [ownR_len]) (set_rows (l := sp[k] ++ [(cs.length : Int)]) (x := .osl (sp.length + 1 + 1 + 1 + 1 + 1 + 1 + 1) 1 0 (sp[k].length + 1) (sp[k].length + 1)) ?_ (shows_osl (d := 0) (by simp) ?_ (fun e => irow_view _ 0 e) irw_hot))) (showsV _)
      · simp [obj, ownH_len, List.getElem?_append_right, irow, hcs]
      · simp [obj, ownH_len, List.getElem?_append_right]
      ·
        intro i hi hik hnz
        have h1 := ownH_get (sz := 1) (g := irow .i64) hi
        have h3 : ∀ o, ((ownH 1 (irow .i64) sp).set k o)[i]? = some (oT 1 (sp[i].map (irow .i64))) := fun o => by
          rw [List.getElem?_set_ne (fun e => hik e.symm)]; exact h1
        have h2 : ∀ LL : Heap, (ownH 1 (irow .i64) sp ++ LL)[i]? = some (oT 1 (sp[i].map (irow .i64))) := fun LL => by
          rw [List.getElem?_append_left (by rw [ownH_len]; exact hi)]; exact h1
        have h4 : ∀ (o : Option (Nat × List Row)) (LL : Heap), ((ownH 1 (irow .i64) sp).set k o ++ LL)[i]? = some (oT 1 (sp[i].map (irow .i64))) := fun o LL => by
          rw [List.getElem?_append_left (by rw [List.length_set, ownH_len]; exact hi)]; exact h3 o
        simp [obj, h1, h2, h3, h4, oT, hnz]
      · simp [obj, ownH_len, List.getElem?_append_right, irow, hcs]
end Go.Proofs.Ytfiindblaopaiaa
