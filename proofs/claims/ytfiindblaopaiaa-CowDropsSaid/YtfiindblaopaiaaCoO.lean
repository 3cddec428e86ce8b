/- ringkeep2: CowDrops. -/
import Derived.Test.YtfiindblaopaiaaCoN
namespace Go.Proofs.Ytfiindblaopaiaa
open Go.AI
set_option maxHeartbeats 2000000
set_option maxRecDepth 100000
set_option linter.unusedSimpArgs false
set_option linter.unusedVariables false
attribute [local simp] wpA wpX RunA RunD runF foot footP footB idsA bare apart runL step1 gsel_f gsel_t gsel_s res_same res_and1 res_and2 res_and3 res_and4 res_and5 res_and6 res_false res_true res_v res_ptr res_fptr res_osl res_xsl soft aAppendZ aCap ovlI ovlJ res_fsl res_esl res_agg res_tup res_fn res_junk res_anyb aPick hk imp_left iteV dstOk guardOk astep astepE AI.ev AI.look AI.put envOf aBox cellsOf allOne allOneA oneA Value.oneCell' Value.cells newObj' aFieldAddr aLoad obj readAt thenA blockA condA retA resA tupA view hot hotC hotR depthV cAgg cInt cBool mkAgg allV aAlloc aBuild fillA writeAt aStore isAggA aField idx aIndexAddr aIndex bnd aSlice aExtract aLen aBuiltin aCall isStatic eqAgg eqTy eqC ev_add ev_sub ev_mul ev_quo ev_rem ev_and ev_or ev_xor ev_andNot ev_shl ev_shr ev_eql ev_neq ev_lss ev_leq ev_gtr ev_geq ev_agg w64 wu32 wu8 ev_not ev_neg Cod.plain RCod.plain argM finM cold coldC coldR goInt intDec boolDec aggDec Weaker heapW lowA lowC Again slDec undef aBuildSlice setRows aAppend rowsOf aMakeSlice aClear aCopy softer_self softer_nil valsOf ev_min2 ev_max2 hotR_set hotR_append take_map_set irow_cold irow_mapM irow_mapMc irow_view irow_viewc irow_hotR irow_ren irow_renc irow_low WeakT heapT thOf ren renC AgainT NextF NextT fnDec cFn rNil selfLt natLt0 natLt1 getLastMap frame0 frame1 own0 own1 argG finG tau tauI tauO tauC bareA bareC bareH irow_tau irow_tauc irow_bare irow_flat irow_bareR ownA_nil ownT_nil ownA_c ownT_c ownA_s ownT_s takeMapLen footC plainA noId noIdC cloneF frame0F frame1F insertF replaceI replaceF cellDec rCell fpDec cFp rTwo deleteF allV_oA oneA_oA res_oA RunR RunE runFT footAt hotR_cat tmodN fxSz2 fxBy2 fxAg2 fxZe2 fxSl2 fxAr2 fxPl2 fxSz3 fxBy3 fxAg3 fxZe3 fxSl3 fxAr3 fxPl3 fxSz4 fxBy4 fxAg4 fxZe4 fxSl4 fxAr4 fxPl4 fxSz5 fxBy5 fxAg5 fxZe5 fxSl5 fxAr5 fxPl5 fxSz9 fxBy9 fxAg9 fxZe9 fxSl9 fxAr9 fxPl9 fxSz12 fxBy12 fxAg12 fxZe12 fxSl12 fxAr12 fxPl12 fxSz13 fxBy13 fxAg13 fxZe13 fxSl13 fxAr13 fxFi13x0 fxFi13x1 fxPl13 fxSz21 fxBy21 fxAg21 fxZe21 fxSl21 fxAr21 fxPl21 fxSz22 fxBy22 fxAg22 fxZe22 fxSl22 fxAr22 fxPl22 fxSz23 fxBy23 fxAg23 fxZe23 fxSl23 fxAr23 fxFi23x0 fxFi23x1 fxPl23 fxSz24 fxBy24 fxAg24 fxZe24 fxSl24 fxAr24 fxFi24x0 fxFi24x1 fxPl24 fxSz25 fxBy25 fxAg25 fxZe25 fxSl25 fxAr25 fxFi25x0 fxFi25x1 fxPl25 fxSz26 fxBy26 fxAg26 fxZe26 fxSl26 fxAr26 fxFi26x0 fxFi26x1 fxPl26 fxSz27 fxBy27 fxAg27 fxZe27 fxSl27 fxAr27 fxPl27 fxSz34 fxBy34 fxAg34 fxZe34 fxSl34 fxAr34 fxPl34 fxSz37 fxBy37 fxAg37 fxZe37 fxSl37 fxAr37 fxPl37 fxSz45 fxBy45 fxAg45 fxZe45 fxSl45 fxAr45 fxFi45x0 fxFi45x1 fxPl45 fxSz46 fxBy46 fxAg46 fxZe46 fxSl46 fxAr46 fxFi46x0 fxFi46x1 fxPl46 fxSz48 fxBy48 fxAg48 fxZe48 fxSl48 fxAr48 fxPl48 fxSz49 fxBy49 fxAg49 fxZe49 fxSl49 fxAr49 fxPl49 fxSz50 fxBy50 fxAg50 fxZe50 fxSl50 fxAr50 fxFi50x0 fxFi50x1 fxPl50 fxSz51 fxBy51 fxAg51 fxZe51 fxSl51 fxAr51 fxFi51x0 fxFi51x1 fxPl51 fxSz57 fxBy57 fxAg57 fxZe57 fxSl57 fxAr57 fxPl57 fxSz69 fxBy69 fxAg69 fxZe69 fxSl69 fxAr69 fxPl69 fxSz70 fxBy70 fxAg70 fxZe70 fxSl70 fxAr70 fxPl70 fxSz92 fxBy92 fxAg92 fxZe92 fxSl92 fxAr92 fxPl92 fxSz107 fxBy107 fxAg107 fxZe107 fxSl107 fxAr107 fxPl107 fxSz108 fxBy108 fxAg108 fxZe108 fxSl108 fxAr108 fxFi108x0 fxPl108 fxSz111 fxBy111 fxAg111 fxZe111 fxSl111 fxAr111 fxPl111 fxSz115 fxBy115 fxAg115 fxZe115 fxSl115 fxAr115 fxPl115 fxSz120 fxBy120 fxAg120 fxZe120 fxSl120 fxAr120 fxPl120 fxEq26 fxEq70 fxCv2x2 fxCv2x3 fxCv2x5 fxCv2x12 fxCv2x21 fxCv2x27 fxCv2x111 fxCv3x2 fxCv3x3 fxCv3x5 fxCv3x12 fxCv3x21 fxCv3x27 fxCv3x111 fxCv5x2 fxCv5x3 fxCv5x5 fxCv5x12 fxCv5x21 fxCv5x27 fxCv5x111 fxCv12x2 fxCv12x3 fxCv12x5 fxCv12x12 fxCv12x21 fxCv12x27 fxCv12x111 fxCv21x2 fxCv21x3 fxCv21x5 fxCv21x12 fxCv21x21 fxCv21x27 fxCv21x111 fxCv27x2 fxCv27x3 fxCv27x5 fxCv27x12 fxCv27x21 fxCv27x27 fxCv27x111 fxCv111x2 fxCv111x3 fxCv111x5 fxCv111x12 fxCv111x21 fxCv111x27 fxCv111x111 fxEb4 fxNb4 fxLt9 fxLn22 fxNe22 fxNn22 fxOe22 fxOn22 fxXe22 fxXn22 fxLn34 fxNe34 fxNn34 fxOe34 fxOn34 fxXe34 fxXn34 fxLn37 fxNe37 fxNn37 fxOe37 fxOn37 fxXe37 fxXn37 fxLn48 fxNe48 fxNn48 fxOe48 fxOn48 fxXe48 fxXn48 fxLn49 fxNe49 fxNn49 fxOe49 fxOn49 fxXe49 fxXn49 fxLn57 fxNe57 fxNn57 fxOe57 fxOn57 fxXe57 fxXn57 fxLn69 fxNe69 fxNn69 fxOe69 fxOn69 fxXe69 fxXn69 fxLn92 fxNe92 fxNn92 fxOe92 fxOn92 fxXe92 fxXn92 fxFn3 fxFm3 fxFb3 fxFi3 fxFj3 fxFn4 fxFm4 fxFb4 fxFi4 fxFj4 fxFn5 fxFm5 fxFb5 fxFi5 fxFj5 fxFn6 fxFm6 fxFb6 fxFi6 fxFj6 fxFn7 fxFm7 fxFb7 fxFi7 fxFj7 fxFn8 fxFm8 fxFb8 fxFi8 fxFj8 fxFn9 fxFm9 fxFb9 fxFi9 fxFj9 fxFn10 fxFm10 fxFb10 fxFi10 fxFj10 fxFn11 fxFm11 fxFb11 fxFi11 fxFj11 fxFn12 fxFm12 fxFb12 fxFi12 fxFj12 fxFn13 fxFm13 fxFb13 fxFi13 fxFj13 fxFn14 fxFm14 fxFb14 fxFi14 fxFj14 fxFn15 fxFm15 fxFb15 fxFi15 fxFj15 fxFn16 fxFm16 fxFb16 fxFi16 fxFj16 fxFn17 fxFm17 fxFb17 fxFi17 fxFj17 fxFn18 fxFm18 fxFb18 fxFi18 fxFj18 fxFn19 fxFm19 fxFb19 fxFi19 fxFj19 fxFn20 fxFm20 fxFb20 fxFi20 fxFj20 fxFn21 fxFm21 fxFb21 fxFi21 fxFj21 fxFn22 fxFm22 fxFb22 fxFi22 fxFj22 fxFn23 fxFm23 fxFb23 fxFi23 fxFj23 fxFn24 fxFm24 fxFb24 fxFi24 fxFj24 fxFn25 fxFm25 fxFb25 fxFi25 fxFj25 fxFn26 fxFm26 fxFb26 fxFi26 fxFj26 fxFn27 fxFm27 fxFb27 fxFi27 fxFj27 fxFn28 fxFm28 fxFb28 fxFi28 fxFj28 fxFn29 fxFm29 fxFb29 fxFi29 fxFj29 fxFn30 fxFm30 fxFb30 fxFi30 fxFj30 fxFn31 fxFm31 fxFb31 fxFi31 fxFj31 fxFn32 fxFm32 fxFb32 fxFi32 fxFj32 fxFn33 fxFm33 fxFb33 fxFi33 fxFj33 fxFn34 fxFm34 fxFb34 fxFi34 fxFj34 fxFn35 fxFm35 fxFb35 fxFi35 fxFj35 fxFn36 fxFm36 fxFb36 fxFi36 fxFj36 fxFn37 fxFm37 fxFb37 fxFi37 fxFj37 fxFn38 fxFm38 fxFb38 fxFi38 fxFj38 fxFn39 fxFm39 fxFb39 fxFi39 fxFj39 fxFn40 fxFm40 fxFb40 fxFi40 fxFj40 fxFn41 fxFm41 fxFb41 fxFi41 fxFj41 fxFn42 fxFm42 fxFb42 fxFi42 fxFj42 fxFn43 fxFm43 fxFb43 fxFi43 fxFj43 fxFn44 fxFm44 fxFb44 fxFi44 fxFj44 fxFn45 fxFm45 fxFb45 fxFi45 fxFj45 fxFn46 fxFm46 fxFb46 fxFi46 fxFj46 fxFn47 fxFm47 fxFb47 fxFi47 fxFj47 fxFn48 fxFm48 fxFb48 fxFi48 fxFj48 fxFn49 fxFm49 fxFb49 fxFi49 fxFj49 fxFn50 fxFm50 fxFb50 fxFi50 fxFj50 fxFn51 fxFm51 fxFb51 fxFi51 fxFj51 fxFn52 fxFm52 fxFb52 fxFi52 fxFj52 fxFn53 fxFm53 fxFb53 fxFi53 fxFj53 fxFn54 fxFm54 fxFb54 fxFi54 fxFj54 fxFn55 fxFm55 fxFb55 fxFi55 fxFj55 fxFn56 fxFm56 fxFn57 fxFm57 fxFb57 fxFi57 fxFj57 fxFn58 fxFm58 fxFb58 fxFi58 fxFj58 fxFn59 fxFm59 fxFn60 fxFm60 fxFb60 fxFi60 fxFj60 fxFn61 fxFm61 fxFb61 fxFi61 fxFj61 fxFn62 fxFm62 fxFb62 fxFi62 fxFj62 fxFn63 fxFm63 fxFb63 fxFi63 fxFj63 fxFn64 fxFm64 fxFb64 fxFi64 fxFj64 fxFn65 fxFm65 fxFb65 fxFi65 fxFj65 fxFn66 fxFm66 fxFb66 fxFi66 fxFj66
attribute [local simp] rSp_sz spR_cold spR_dec spR_mapM spR_mapMc spR_view spR_viewc spR_hotR spR_ren spR_renc spR_low spR_get spR_len Room.eta Room.dec_row Room.dec_hrow
attribute [local simp] rBs_sz bspR_cold bspR_dec bspR_mapM bspR_mapMc bspR_view bspR_viewc bspR_hotR bspR_ren bspR_renc bspR_low bspR_get bspR_len
attribute [local simp] ss_bare ss_bareH ss_tau ss_tauO
theorem byDel : InlOk Try.prog 30 (deleteI 1) := by
  refine delete_of (z := [.v (.slice none 0 0)]) Try.func30 rfl (by simp [Try.ntmps30]) ?_
  intro H id i rows h1 h2 h3 h4
  refine wpA_sound noOrc_ok fxMix _ _ _ _ (by kernel_rfl) ?_
  have h1' := obj_get h1
  have g1 := (List.getElem?_eq_some_iff.1 h1').2
  have c1 : (i : Int) + 1 ≤ rows.length := by omega
  have c2 : 0 ≤ (i : Int) + 1 := by omega
  have c3 : (i : Int) ≤ i + 1 := by omega
  have c4 : i ≤ rows.length := by omega
  have c5 : i + 1 ≤ rows.length := by omega
  have c6 : i + 1 + (rows.length - (i + 1)) ≤ rows.length := by omega
  have c7 : i + (rows.length - (i + 1)) ≤ rows.length := by omega
  have c8 : i + (rows.length - (i + 1)) = rows.length - 1 := by omega
  have c9 : rows.length - 1 ≤ rows.length := by omega
  have d1 : ¬ ((i : Int) = i + 1) := by omega
  have d2 : List.take (rows.length - (i + 1)) (List.drop (i + 1) rows) = List.drop (i + 1) rows := List.take_of_length_le (by simp)
  have d3 : rows.length - (rows.length - 1) = 1 := by omega
  have d4 : (rows.length - 1) + 1 = rows.length := by omega
  have d5 : ¬ rows.length = i := by omega
  have d6 : ¬ rows.length = 0 := by omega
  have d7 : rows.length ≤ 4294967296 := by omega
  have d8 : i + (rows.length - (i + 1)) ≤ 4294967296 := by omega
  have f1 : rows.length ≤ 4294967297 := by omega
  have f2 : rows.length ≤ i + (rows.length - (i + 1) + 1) := by omega
  have d9 : ∀ X : List Row, List.take (rows.length - 1) (List.take i rows ++ (List.drop (i + 1) rows ++ X)) = List.take i rows ++ List.drop (i + 1) rows := by
    intro X
    rw [← List.append_assoc, List.take_append_of_le_length (by simp; omega), List.take_of_length_le (by simp; omega)]
  have e1 : List.drop rows.length (List.take i rows ++ (List.drop (i + 1) rows ++ List.drop (rows.length - 1) rows)) = [] := List.drop_eq_nil_of_le (by simp; omega)
  have e2 : rows.length - 1 ≤ i + (rows.length - (i + 1) + 1) := by omega
  have e3 : min i rows.length = i := by omega
  have e4 : ((rows.length - 1 : Nat) : Int) ≤ rows.length := by omega
  simp [Try.ntmps30, Try.results30, noOrc, h1', h2, h3, g1, c1, c2, c3, c4, c5, c6, c7, c8, c9, d1, d2, d3, d4, d5, d6, d7, d8, d9, e1, e2, e3, e4, f1, f2]
theorem drop_err {r : Room} {s e : Int} (h : cowDrop r s = .error e) : e ≠ 0 := by
  unfold cowDrop at h
  split at h
  · cases h
  · rename_i h0; cases h; exact h0
theorem drop_full {r x : Room} {s g : Int} (h : cowDrop r s = .ok (x, g)) : ∃ (n : Nat) (hn : n < r.spaces.length), s = n ∧ cowCheck r = 0 ∧ cowCheck x = 0 ∧ seesL x = (seesL r).eraseIdx n ∧ x.spaces.length = r.spaces.length - 1 ∧ (x.cells.length : Int) = r.cells.length - g ∧ 0 ≤ g ∧ g ≤ 64 := by
  have h1 := h
  unfold cowDrop at h
  split at h
  case isFalse => cases h
  rename_i h0
  obtain ⟨hck, n, rfl, hn⟩ := sp_ok h0
  simp only [Except.ok.injEq, Prod.mk.injEq, Int.toNat_natCast] at h
  obtain ⟨rfl, rfl⟩ := h
  obtain ⟨h2, h3⟩ := drop_ok hck hn
  have h4 := kp_le (r.spaces.eraseIdx n) r.cells.length
  rw [← kpCells_len _ r.cells] at h4
  have h5 := (cow_ok hck).1.1
  refine ⟨n, hn, rfl, hck, h2, h3, ?_, ?_, by omega, by omega⟩
  · simp only [dropRoom, List.length_map, List.length_eraseIdx, if_pos hn]
  · simp only [dropRoom]; omega
theorem drops_pure : PureOk Try.prog 9 (argM (cAgg rRoom) fun q => argM (cInt .i64) fun s => finM (some (.v (.bool true)))) := by
  refine pure2 Try.func9 rfl ?_
  rintro q s r hr
  simp only [Option.some.injEq] at hr
  subst hr
  refine body_gen ((((((noOrc_ok.withP cowDrop_pure).withP cows_pure).withP same_pure).withP cowCheck_pure).withIF sees_inl frame0_loc).withIF byDel delete_loc) fxMix (by kernel_rfl) (by simp [Try.ntmps9]) ?_
  intro C cP cI cN cD cF cA
  have cp0 := orcP cowDrop_pure (C := C) (by rw [cP]; rfl)
  have cp1 := orcP cows_pure (C := C) (by rw [cP]; rfl)
  have ch0 := orcP same_pure (C := C) (by rw [cP]; rfl)
  have ch1 := orcP cowCheck_pure (C := C) (by rw [cP]; rfl)
  have cn0 := orcI sees_inl (C := C) (by rw [cN]; rfl)
  have cn1 := orcI byDel (C := C) (by rw [cN]; rfl)
  replace cI := fun g => congrFun cI g
  simp only [Orc.withP, Orc.withI, Orc.withF, Orc.withD, Orc.withA, noOrc] at cI
  replace cD : C.dyn = fun _ => [] := cD
  clear cP cN cF cA
  cases h1 : cowDrop q s with
  | error e =>
    have he := drop_err h1
    obtain ⟨cs, sp⟩ := q
    simp [Try.ntmps9, Try.results9, cSl, cp0, cp1, cn0, cn1, cI, cD, rI, rRoom, roomDec, Room.row, h1, dropE, he]
  | ok p =>
    obtain ⟨x, g⟩ := p
    obtain ⟨n, hn, rfl, hck, hcx, hs, hxl, hcl, hg0, hg64⟩ := drop_full h1
    obtain ⟨⟨g1, g2⟩, g3, g4⟩ := cow_ok hck
    have hsm := sees_small hcx
    have hls := sees_len q
    have hlx := sees_len x
    obtain ⟨cs, sp⟩ := q
    obtain ⟨cx, sx⟩ := x
    simp only at hn hls hlx hxl hcl g1 g2 g3 g4
    simp [Try.ntmps9, Try.results9, cSl, cp0, cp1, cn0, cn1, cI, cD, rI, rRoom, roomDec, Room.row, Room.hrow, h1, dropE, hck, hcx]
    generalize hA : seesL ⟨cs, sp⟩ = A at *
    generalize hA2 : seesL ⟨cx, sx⟩ = A2 at *
    have hb : ¬ A = [] := fun e => by rw [e] at hls; simp at hls; omega
    obtain ⟨D, hD⟩ : ∃ D, sH A = D ++ [none] := by
      obtain ⟨A0, a, rfl⟩ : ∃ A0 a, A = A0 ++ [a] := ⟨A.dropLast, A.getLast hb, (List.dropLast_concat_getLast hb).symm⟩
      exact ⟨sH A0 ++ [oT 1 (a.map (irow .u8)), none], by rw [sH_app]; simp⟩
    have hDn : D.length + 1 = 3 * sp.length := by
      have := congrArg List.length hD
      rw [sH_len, hls] at this
      simpa using this.symm
    have hOV : ssOV 3 A = .tup [.osl (D.length + 3) 1 0 sp.length sp.length, .v (.bool true)] := by
      simp only [ssOV, hb, if_false, hls]
      rw [show 3 + 3 * sp.length - 1 = D.length + 3 by omega]
    have hOH : ssOH 3 A = none :: (D ++ [some (1, sRo 3 A)]) := by
      simp only [ssOH, hb, if_false, hD]; simp
    have hrl : (sRo 3 A).length = sp.length := by rw [sRo_len, hls]
    have n1 : ¬ ((n : Nat) : Int) < 0 := by omega
    have n3 : ¬ sp.length ≤ n := by omega
    have wk : IntKind.i64.wrap ((n : Int) + 1) = (n : Int) + 1 := w64 (by omega) (by omega)
    have n5 : sp.length ≤ 1048576 := by omega
    have sD : ∀ (z z' : Option (Nat × List Row)) (Y : Heap), (D ++ z :: Y).set D.length z' = D ++ z' :: Y := fun z z' Y => by
      rw [List.set_append_right _ _ (Nat.le_refl _)]; simp
    simp [Try.ntmps9, Try.results9, cSl, cp0, cp1, cn0, cn1, cI, cD, rI, rRoom, roomDec, hOV, hOH, hcx, hA2]
    have hdw : ∀ H : Heap, obj H (D.length + 3) = some (1, (sRo 3 A).eraseIdx n) → (∀ i, i < D.length → obj H (i + 3) = obj D i) → (cSl rBs).dec (cold (view H 4 (.osl (D.length + 3) 1 0 (sp.length - 1) (sp.length - 1)))) = some (A.eraseIdx n) := by
      intro H o1 o2
      refine dec_rows (d := 2) (cr := rI .u8) (by rw [List.length_eraseIdx, if_pos (by omega), hls]) o1 (by rw [List.length_eraseIdx, List.length_eraseIdx, hrl, hls]) (fun i hi => ?_)
      rw [List.length_eraseIdx, if_pos (by omega)] at hi
      have key : ∀ m (hm : m < A.length), slDec (rI .u8) (cold (view H (2 + 1) (cellN (3 + 3 * m) A[m]))) = some A[m] := fun m hm => dec_cellN fun hnz => by
        have h2 := sH_get hm
        rw [hD, List.getElem?_append_left (by omega), oT_pos (by simpa using hnz)] at h2
        rw [Nat.add_comm, o2 _ (by omega)]
        simp [obj, h2]
      by_cases h : i < n
      · refine ⟨_, by rw [List.getElem?_eraseIdx, if_pos h]; exact sRo_get (by omega), ?_⟩
        have := key i (by omega)
        simpa [List.getElem_eraseIdx, h] using this
      · refine ⟨_, by rw [List.getElem?_eraseIdx, if_neg h]; exact sRo_get (by omega), ?_⟩
        have := key (i + 1) (by omega)
        simpa [List.getElem_eraseIdx, h] using this
    have hm : ∀ (H : Heap) (u : AVal), (cSl rBs).dec (cold (view H 4 u)) = some A2 → obj H (D.length + 3) = some (1, (sRo 3 A).eraseIdx n) → (∀ i, i < D.length → obj H (i + 3) = obj D i) → C.pure 26 [cold (view H 4 u), cold (view H 4 (.osl (D.length + 3) 1 0 (sp.length - 1) (sp.length - 1)))] = some (.v (.bool true)) := by
      intro H u e1 o1 o2
      rw [ch0]
      simp only [argM, e1, hdw H o1 o2, finM]
      rw [if_pos ⟨by omega, hsm⟩]
      rw [hs]; simp
    have we : IntKind.i64.wrap ((cs.length : Int) - g) = (cs.length : Int) - g := w64 (by omega) (by omega)
    by_cases hb2 : A2 = []
    · have hOV2 : ∀ b, ssOV b A2 = .v (.tuple #[.slice none 0 0, .bool true]) := fun b => by simp [ssOV, hb2]
      have hOH2 : ∀ b, ssOH b A2 = [] := fun b => by simp [ssOH, hb2]
      simp [Try.ntmps9, Try.results9, cSl, cp0, cp1, cn0, cn1, cI, cD, -view, -cold, hOV2, hOH2, gD, sD, hn, hrl, deleteI, n1, n3, wk, n5]
      rw [hm]
      rotate_left
      · rw [hb2]; simp [view, cold, cSl, slDec]
      · simp only [obj, List.getElem?_cons_succ, gD]; rfl
      · intro i hi
        simp only [obj, List.getElem?_cons_succ]
        rw [List.getElem?_append_left hi]
      simp [Try.ntmps9, Try.results9, cSl, cp0, cp1, cn0, cn1, cI, cD, rI, rRoom, roomDec, ch1, hcx, hcl, we, hg0]
    · obtain ⟨D2, hD2⟩ : ∃ D, sH A2 = D ++ [none] := by
        obtain ⟨A0, a, rfl⟩ : ∃ A0 a, A2 = A0 ++ [a] := ⟨A2.dropLast, A2.getLast hb2, (List.dropLast_concat_getLast hb2).symm⟩
        exact ⟨sH A0 ++ [oT 1 (a.map (irow .u8)), none], by rw [sH_app]; simp⟩
      have hDn2 : D2.length + 1 = 3 * (sp.length - 1) := by
        have := congrArg List.length hD2
        rw [sH_len, hlx, hxl] at this
        simpa using this.symm
      have hOV2 : ∀ b, ssOV (b + 1) A2 = .tup [.osl (b + D2.length + 1) 1 0 (sp.length - 1) (sp.length - 1), .v (.bool true)] := fun b => by
        simp only [ssOV, hb2, if_false, hlx, hxl]
        rw [show b + 1 + 3 * (sp.length - 1) - 1 = b + D2.length + 1 by omega]
      have hOH2 : ∀ b, ssOH b A2 = none :: (D2 ++ [some (1, sRo b A2)]) := fun b => by
        simp only [ssOH, hb2, if_false, hD2]; simp
      simp [Try.ntmps9, Try.results9, cSl, cp0, cp1, cn0, cn1, cI, cD, -view, -cold, hOV2, hOH2, gD, sD, hn, hrl, deleteI, n1, n3, wk, n5]
      rw [hm]
      rotate_left
      · refine dec_seen (b := D.length + 5) (by omega) (rows := sRo (D.length + 5) A2) ?_ sRo_len (fun i hi => sRo_get hi) (fun i hi hnz => ?_)
        · rw [show D.length + 4 + D2.length + 1 = D.length + 2 + D2.length + 1 + 1 + 1 by omega]
          simp only [obj, List.getElem?_cons_succ]
          rw [List.getElem?_append_right (by omega), show D.length + 2 + D2.length - D.length = D2.length + 1 + 1 by omega]
          simp only [List.getElem?_cons_succ]
          rw [List.getElem?_append_right (Nat.le_refl _)]
          simp
        · have h2 := sH_get hi
          rw [hD2, List.getElem?_append_left (by omega), oT_pos (by simpa using hnz)] at h2
          rw [show D.length + 5 + 3 * i = D.length + 2 + 3 * i + 1 + 1 + 1 by omega]
          simp only [obj, List.getElem?_cons_succ]
          rw [List.getElem?_append_right (by omega), show D.length + 2 + 3 * i - D.length = 3 * i + 1 + 1 by omega]
          simp only [List.getElem?_cons_succ]
          rw [List.getElem?_append_left (by omega), h2]
          rfl
      · simp only [obj, List.getElem?_cons_succ, gD]; rfl
      · intro i hi
        simp only [obj, List.getElem?_cons_succ]
        rw [List.getElem?_append_left hi]
      simp [Try.ntmps9, Try.results9, cSl, cp0, cp1, cn0, cn1, cI, cD, rI, rRoom, roomDec, ch1, hcx, hcl, we, hg0]
end Go.Proofs.Ytfiindblaopaiaa
