/- ringkeep2: CowWrites, CowDrops. -/
import Derived.Test.YtfiindblaopaiaaCoM
import Derived.Test.YtfiindblaopaiaaCoQ
import Derived.Test.YtfiindblaopaiaaCoL
namespace Go.Proofs.Ytfiindblaopaiaa
open Go.AI
set_option maxHeartbeats 2000000
set_option maxRecDepth 100000
set_option linter.unusedSimpArgs false
set_option linter.unusedVariables false
attribute [local simp] wpA wpX RunA RunD runF foot footP footB idsA bare apart runL step1 gsel_f gsel_t gsel_s res_same res_and1 res_and2 res_and3 res_and4 res_and5 res_and6 res_false res_true res_v res_ptr res_fptr res_osl res_xsl soft aAppendZ aCap ovlI ovlJ res_fsl res_esl res_agg res_tup res_fn res_junk res_anyb aPick hk imp_left iteV dstOk guardOk astep astepE AI.ev AI.look AI.put envOf aBox cellsOf allOne allOneA oneA Value.oneCell' Value.cells newObj' aFieldAddr aLoad obj readAt thenA blockA condA retA resA tupA view hot hotC hotR depthV cAgg cInt cBool mkAgg allV aAlloc aBuild fillA writeAt aStore isAggA aField idx aIndexAddr aIndex bnd aSlice aExtract aLen aBuiltin aCall isStatic eqAgg eqTy eqC ev_add ev_sub ev_mul ev_quo ev_rem ev_and ev_or ev_xor ev_andNot ev_shl ev_shr ev_eql ev_neq ev_lss ev_leq ev_gtr ev_geq ev_agg w64 wu32 wu8 ev_not ev_neg Cod.plain RCod.plain argM finM cold coldC coldR goInt intDec boolDec aggDec Weaker heapW lowA lowC Again slDec undef aBuildSlice setRows aAppend rowsOf aMakeSlice aClear aCopy softer_self softer_nil valsOf ev_min2 ev_max2 hotR_set hotR_append take_map_set irow_cold irow_mapM irow_mapMc irow_view irow_viewc irow_hotR irow_ren irow_renc irow_low WeakT heapT thOf ren renC AgainT NextF NextT fnDec cFn rNil selfLt natLt0 natLt1 getLastMap frame0 frame1 own0 own1 argG finG tau tauI tauO tauC bareA bareC bareH irow_tau irow_tauc irow_bare irow_flat irow_bareR ownA_nil ownT_nil ownA_c ownT_c ownA_s ownT_s takeMapLen footC plainA noId noIdC cloneF frame0F frame1F insertF replaceI replaceF cellDec rCell fpDec cFp rTwo deleteF allV_oA oneA_oA res_oA RunR RunE runFT footAt hotR_cat tmodN fxSz2 fxBy2 fxAg2 fxZe2 fxSl2 fxAr2 fxPl2 fxSz3 fxBy3 fxAg3 fxZe3 fxSl3 fxAr3 fxPl3 fxSz4 fxBy4 fxAg4 fxZe4 fxSl4 fxAr4 fxPl4 fxSz5 fxBy5 fxAg5 fxZe5 fxSl5 fxAr5 fxPl5 fxSz9 fxBy9 fxAg9 fxZe9 fxSl9 fxAr9 fxPl9 fxSz12 fxBy12 fxAg12 fxZe12 fxSl12 fxAr12 fxPl12 fxSz13 fxBy13 fxAg13 fxZe13 fxSl13 fxAr13 fxFi13x0 fxFi13x1 fxPl13 fxSz21 fxBy21 fxAg21 fxZe21 fxSl21 fxAr21 fxPl21 fxSz22 fxBy22 fxAg22 fxZe22 fxSl22 fxAr22 fxPl22 fxSz23 fxBy23 fxAg23 fxZe23 fxSl23 fxAr23 fxFi23x0 fxFi23x1 fxPl23 fxSz24 fxBy24 fxAg24 fxZe24 fxSl24 fxAr24 fxFi24x0 fxFi24x1 fxPl24 fxSz25 fxBy25 fxAg25 fxZe25 fxSl25 fxAr25 fxFi25x0 fxFi25x1 fxPl25 fxSz26 fxBy26 fxAg26 fxZe26 fxSl26 fxAr26 fxFi26x0 fxFi26x1 fxPl26 fxSz27 fxBy27 fxAg27 fxZe27 fxSl27 fxAr27 fxPl27 fxSz34 fxBy34 fxAg34 fxZe34 fxSl34 fxAr34 fxPl34 fxSz37 fxBy37 fxAg37 fxZe37 fxSl37 fxAr37 fxPl37 fxSz45 fxBy45 fxAg45 fxZe45 fxSl45 fxAr45 fxFi45x0 fxFi45x1 fxPl45 fxSz46 fxBy46 fxAg46 fxZe46 fxSl46 fxAr46 fxFi46x0 fxFi46x1 fxPl46 fxSz48 fxBy48 fxAg48 fxZe48 fxSl48 fxAr48 fxPl48 fxSz49 fxBy49 fxAg49 fxZe49 fxSl49 fxAr49 fxPl49 fxSz50 fxBy50 fxAg50 fxZe50 fxSl50 fxAr50 fxFi50x0 fxFi50x1 fxPl50 fxSz51 fxBy51 fxAg51 fxZe51 fxSl51 fxAr51 fxFi51x0 fxFi51x1 fxPl51 fxSz57 fxBy57 fxAg57 fxZe57 fxSl57 fxAr57 fxPl57 fxSz69 fxBy69 fxAg69 fxZe69 fxSl69 fxAr69 fxPl69 fxSz70 fxBy70 fxAg70 fxZe70 fxSl70 fxAr70 fxPl70 fxSz92 fxBy92 fxAg92 fxZe92 fxSl92 fxAr92 fxPl92 fxSz107 fxBy107 fxAg107 fxZe107 fxSl107 fxAr107 fxPl107 fxSz108 fxBy108 fxAg108 fxZe108 fxSl108 fxAr108 fxFi108x0 fxPl108 fxSz111 fxBy111 fxAg111 fxZe111 fxSl111 fxAr111 fxPl111 fxSz115 fxBy115 fxAg115 fxZe115 fxSl115 fxAr115 fxPl115 fxSz120 fxBy120 fxAg120 fxZe120 fxSl120 fxAr120 fxPl120 fxEq26 fxEq70 fxCv2x2 fxCv2x3 fxCv2x5 fxCv2x12 fxCv2x21 fxCv2x27 fxCv2x111 fxCv3x2 fxCv3x3 fxCv3x5 fxCv3x12 fxCv3x21 fxCv3x27 fxCv3x111 fxCv5x2 fxCv5x3 fxCv5x5 fxCv5x12 fxCv5x21 fxCv5x27 fxCv5x111 fxCv12x2 fxCv12x3 fxCv12x5 fxCv12x12 fxCv12x21 fxCv12x27 fxCv12x111 fxCv21x2 fxCv21x3 fxCv21x5 fxCv21x12 fxCv21x21 fxCv21x27 fxCv21x111 fxCv27x2 fxCv27x3 fxCv27x5 fxCv27x12 fxCv27x21 fxCv27x27 fxCv27x111 fxCv111x2 fxCv111x3 fxCv111x5 fxCv111x12 fxCv111x21 fxCv111x27 fxCv111x111 fxEb4 fxNb4 fxLt9 fxLn22 fxNe22 fxNn22 fxOe22 fxOn22 fxXe22 fxXn22 fxLn34 fxNe34 fxNn34 fxOe34 fxOn34 fxXe34 fxXn34 fxLn37 fxNe37 fxNn37 fxOe37 fxOn37 fxXe37 fxXn37 fxLn48 fxNe48 fxNn48 fxOe48 fxOn48 fxXe48 fxXn48 fxLn49 fxNe49 fxNn49 fxOe49 fxOn49 fxXe49 fxXn49 fxLn57 fxNe57 fxNn57 fxOe57 fxOn57 fxXe57 fxXn57 fxLn69 fxNe69 fxNn69 fxOe69 fxOn69 fxXe69 fxXn69 fxLn92 fxNe92 fxNn92 fxOe92 fxOn92 fxXe92 fxXn92 fxFn3 fxFm3 fxFb3 fxFi3 fxFj3 fxFn4 fxFm4 fxFb4 fxFi4 fxFj4 fxFn5 fxFm5 fxFb5 fxFi5 fxFj5 fxFn6 fxFm6 fxFb6 fxFi6 fxFj6 fxFn7 fxFm7 fxFb7 fxFi7 fxFj7 fxFn8 fxFm8 fxFb8 fxFi8 fxFj8 fxFn9 fxFm9 fxFb9 fxFi9 fxFj9 fxFn10 fxFm10 fxFb10 fxFi10 fxFj10 fxFn11 fxFm11 fxFb11 fxFi11 fxFj11 fxFn12 fxFm12 fxFb12 fxFi12 fxFj12 fxFn13 fxFm13 fxFb13 fxFi13 fxFj13 fxFn14 fxFm14 fxFb14 fxFi14 fxFj14 fxFn15 fxFm15 fxFb15 fxFi15 fxFj15 fxFn16 fxFm16 fxFb16 fxFi16 fxFj16 fxFn17 fxFm17 fxFb17 fxFi17 fxFj17 fxFn18 fxFm18 fxFb18 fxFi18 fxFj18 fxFn19 fxFm19 fxFb19 fxFi19 fxFj19 fxFn20 fxFm20 fxFb20 fxFi20 fxFj20 fxFn21 fxFm21 fxFb21 fxFi21 fxFj21 fxFn22 fxFm22 fxFb22 fxFi22 fxFj22 fxFn23 fxFm23 fxFb23 fxFi23 fxFj23 fxFn24 fxFm24 fxFb24 fxFi24 fxFj24 fxFn25 fxFm25 fxFb25 fxFi25 fxFj25 fxFn26 fxFm26 fxFb26 fxFi26 fxFj26 fxFn27 fxFm27 fxFb27 fxFi27 fxFj27 fxFn28 fxFm28 fxFb28 fxFi28 fxFj28 fxFn29 fxFm29 fxFb29 fxFi29 fxFj29 fxFn30 fxFm30 fxFb30 fxFi30 fxFj30 fxFn31 fxFm31 fxFb31 fxFi31 fxFj31 fxFn32 fxFm32 fxFb32 fxFi32 fxFj32 fxFn33 fxFm33 fxFb33 fxFi33 fxFj33 fxFn34 fxFm34 fxFb34 fxFi34 fxFj34 fxFn35 fxFm35 fxFb35 fxFi35 fxFj35 fxFn36 fxFm36 fxFb36 fxFi36 fxFj36 fxFn37 fxFm37 fxFb37 fxFi37 fxFj37 fxFn38 fxFm38 fxFb38 fxFi38 fxFj38 fxFn39 fxFm39 fxFb39 fxFi39 fxFj39 fxFn40 fxFm40 fxFb40 fxFi40 fxFj40 fxFn41 fxFm41 fxFb41 fxFi41 fxFj41 fxFn42 fxFm42 fxFb42 fxFi42 fxFj42 fxFn43 fxFm43 fxFb43 fxFi43 fxFj43 fxFn44 fxFm44 fxFb44 fxFi44 fxFj44 fxFn45 fxFm45 fxFb45 fxFi45 fxFj45 fxFn46 fxFm46 fxFb46 fxFi46 fxFj46 fxFn47 fxFm47 fxFb47 fxFi47 fxFj47 fxFn48 fxFm48 fxFb48 fxFi48 fxFj48 fxFn49 fxFm49 fxFb49 fxFi49 fxFj49 fxFn50 fxFm50 fxFb50 fxFi50 fxFj50 fxFn51 fxFm51 fxFb51 fxFi51 fxFj51 fxFn52 fxFm52 fxFb52 fxFi52 fxFj52 fxFn53 fxFm53 fxFb53 fxFi53 fxFj53 fxFn54 fxFm54 fxFb54 fxFi54 fxFj54 fxFn55 fxFm55 fxFb55 fxFi55 fxFj55 fxFn56 fxFm56 fxFn57 fxFm57 fxFb57 fxFi57 fxFj57 fxFn58 fxFm58 fxFb58 fxFi58 fxFj58 fxFn59 fxFm59 fxFn60 fxFm60 fxFb60 fxFi60 fxFj60 fxFn61 fxFm61 fxFb61 fxFi61 fxFj61 fxFn62 fxFm62 fxFb62 fxFi62 fxFj62 fxFn63 fxFm63 fxFb63 fxFi63 fxFj63 fxFn64 fxFm64 fxFb64 fxFi64 fxFj64 fxFn65 fxFm65 fxFb65 fxFi65 fxFj65 fxFn66 fxFm66 fxFb66 fxFi66 fxFj66
attribute [local simp] rSp_sz spR_cold spR_dec spR_mapM spR_mapMc spR_view spR_viewc spR_hotR spR_ren spR_renc spR_low spR_get spR_len Room.eta Room.dec_row Room.dec_hrow
attribute [local simp] rBs_sz bspR_cold bspR_dec bspR_mapM bspR_mapMc bspR_view bspR_viewc bspR_hotR bspR_ren bspR_renc bspR_low bspR_get bspR_len
attribute [local simp] ss_bare ss_bareH ss_tau ss_tauO
theorem gD {D : Heap} {z : Option (Nat × List Row)} {Y : Heap} : (D ++ z :: Y)[D.length]? = some z := by
  rw [List.getElem?_append_right (Nat.le_refl _)]; simp
theorem dec_cellN {H : Heap} {d id : Nat} {l : List Int} (ho : l ≠ [] → obj H id = some (1, l.map (irow .u8))) : slDec (rI .u8) (cold (view H (d + 1) (cellN id l))) = some l := by
  by_cases h : l = []
  · subst h; simp [cellN, view, cold, slDec]
  · have h0 : ¬ l.length = 0 := fun e => h (List.length_eq_zero_iff.1 e)
    have := dec_oA (H := H) (d := d) (id := id) (cr := rI .u8) (l := l) ho (fun e => irow_view H d e) irow_cold
    rw [show (rI .u8).sz = 1 from rfl, oA_pos h0] at this
    rw [cellN, if_neg h]
    exact this
/-- what a call is told of one's own lists -/
theorem dec_seen {H : Heap} {L : List (List Int)} {b M m : Nat} {rows : List Row} (hm : m = L.length) (ho : obj H M = some (1, rows)) (hl : rows.length = L.length) (hr : ∀ (i : Nat) (hi : i < L.length), rows[i]? = some [cellN (b + 3 * i) L[i]])
    (hob : ∀ (i : Nat) (hi : i < L.length), L[i] ≠ [] → obj H (b + 3 * i) = some (1, L[i].map (irow .u8))) : (cSl rBs).dec (cold (view H 4 (.osl M 1 0 m m))) = some L :=
  dec_rows (d := 2) (cr := rI .u8) hm ho hl fun i hi => ⟨_, hr i hi, dec_cellN (hob i hi)⟩
theorem sees_small {r : Room} (h : cowCheck r = 0) : ∀ l ∈ seesL r, l.length ≤ 4294967296 := by
  intro l hl
  simp only [seesL, List.mem_map] at hl
  obtain ⟨m, hm, rfl⟩ := hl
  have := ((cow_ok h).2.1 m hm).1
  rw [seeB_len]; omega
theorem writes_pure : PureOk Try.prog 8 (argM (cAgg rRoom) fun q => argM (cInt .i64) fun s => argM (cInt .i64) fun k => argM (cInt .u8) fun b => finM (some (.v (.bool true)))) := by
  refine pure4 Try.func8 rfl ?_
  rintro q s k b r hr
  simp only [Option.some.injEq] at hr
  subst hr
  refine body_gen (((((noOrc_ok.withP cowWrite_pure).withP cows_pure).withP same_pure).withP cowCheck_pure).withIF sees_inl frame0_loc) fxMix (by kernel_rfl) (by simp [Try.ntmps8]) ?_
  intro C cP cI cN cD cF cA
  have cp0 := orcP cowWrite_pure (C := C) (by rw [cP]; rfl)
  have cp1 := orcP cows_pure (C := C) (by rw [cP]; rfl)
  have ch0 := orcP same_pure (C := C) (by rw [cP]; rfl)
  have ch1 := orcP cowCheck_pure (C := C) (by rw [cP]; rfl)
  have cn0 := orcI sees_inl (C := C) (by rw [cN]; rfl)
  replace cI := fun g => congrFun cI g
  simp only [Orc.withP, Orc.withI, Orc.withF, Orc.withD, Orc.withA, noOrc] at cI
  replace cD : C.dyn = fun _ => [] := cD
  clear cP cN cF cA
  cases h1 : cowWrite q s k b with
  | error e =>
    have he := write_err h1
    obtain ⟨cs, sp⟩ := q
    simp [Try.ntmps8, Try.results8, cSl, cp0, cp1, cn0, cI, cD, rI, rRoom, roomDec, Room.row, h1, writeE, he]
  | ok p =>
    obtain ⟨x, c⟩ := p
    obtain ⟨n, j, hn, hj, rfl, rfl, hck, hcx, hs, hxl, hcc⟩ := write_sees h1
    obtain ⟨⟨g1, g2⟩, g3, g4⟩ := cow_ok hck
    have hsm := sees_small hcx
    have hls := sees_len q
    have hlx := sees_len x
    have hgn := sees_get hn
    have hBl := seeB_len q q.spaces[n]
    obtain ⟨cs, sp⟩ := q
    obtain ⟨cx, sx⟩ := x
    simp only at hn hj hgn hls hlx hxl hcc g1 g2 g3 g4 hBl
    simp [Try.ntmps8, Try.results8, cSl, cp0, cp1, cn0, cI, cD, rI, rRoom, roomDec, Room.row, Room.hrow, h1, writeE, hck, hcx]
    generalize hA : seesL ⟨cs, sp⟩ = A at *
    generalize hA2 : seesL ⟨cx, sx⟩ = A2 at *
    generalize hB : seeB ⟨cs, sp⟩ sp[n] = B at *
    have hb : ¬ A = [] := fun e => by rw [e] at hls; simp at hls; omega
    have hb2 : ¬ A2 = [] := fun e => by rw [e] at hlx; simp at hlx; omega
    have hBn : ¬ B = [] := fun e => by rw [e] at hBl; simp at hBl; omega
    obtain ⟨D, hD⟩ : ∃ D, sH A = D ++ [none] := by
      obtain ⟨A0, a, rfl⟩ : ∃ A0 a, A = A0 ++ [a] := ⟨A.dropLast, A.getLast hb, (List.dropLast_concat_getLast hb).symm⟩
      exact ⟨sH A0 ++ [oT 1 (a.map (irow .u8)), none], by rw [sH_app]; simp⟩
    obtain ⟨D2, hD2⟩ : ∃ D, sH A2 = D ++ [none] := by
      obtain ⟨A0, a, rfl⟩ : ∃ A0 a, A2 = A0 ++ [a] := ⟨A2.dropLast, A2.getLast hb2, (List.dropLast_concat_getLast hb2).symm⟩
      exact ⟨sH A0 ++ [oT 1 (a.map (irow .u8)), none], by rw [sH_app]; simp⟩
    have hDn : D.length + 1 = 3 * sp.length := by
      have := congrArg List.length hD
      rw [sH_len, hls] at this
      simpa using this.symm
    have hDn2 : D2.length + 1 = 3 * sp.length := by
      have := congrArg List.length hD2
      rw [sH_len, hlx, hxl] at this
      simpa using this.symm
    have hOV : ssOV 3 A = .tup [.osl (D.length + 3) 1 0 sp.length sp.length, .v (.bool true)] := by
      simp only [ssOV, hb, if_false, hls]
      rw [show 3 + 3 * sp.length - 1 = D.length + 3 by omega]
    have hOH : ssOH 3 A = none :: (D ++ [some (1, sRo 3 A)]) := by
      simp only [ssOH, hb, if_false, hD]; simp
    have hOV2 : ∀ b, ssOV (b + 1) A2 = .tup [.osl (b + D2.length + 1) 1 0 sp.length sp.length, .v (.bool true)] := fun b => by
      simp only [ssOV, hb2, if_false, hlx, hxl]
      rw [show b + 1 + 3 * sp.length - 1 = b + D2.length + 1 by omega]
    have hOH2 : ∀ b, ssOH b A2 = none :: (D2 ++ [some (1, sRo b A2)]) := fun b => by
      simp only [ssOH, hb2, if_false, hD2]; simp
    have hrl : (sRo 3 A).length = sp.length := by rw [sRo_len, hls]
    have hgA : A[n]'(by omega) = B := by
      rw [List.getElem?_eq_getElem (by omega)] at hgn
      exact Option.some.inj hgn
    have hgr : (sRo 3 A)[n]? = some [.osl (3 * n + 3) 1 0 B.length B.length] := by
      rw [sRo_get (by omega), hgA, cellN, if_neg hBn, Nat.add_comm]
    have hgr' : ∀ h, (sRo 3 A)[n]'h = [.osl (3 * n + 3) 1 0 B.length B.length] := fun h => by
      rw [List.getElem?_eq_getElem h] at hgr
      exact Option.some.inj hgr
    have hgi : ∀ Y : Heap, (D ++ Y)[3 * n]? = some (some (1, B.map (irow .u8))) := fun Y => by
      have h2 := sH_get (L := A) (i := n) (by omega)
      rw [hD, List.getElem?_append_left (by omega), hgA, oT_pos (by simpa using hBn)] at h2
      rw [List.getElem?_append_left (by omega), h2]
    have hsi : ∀ (Y : Heap) o, (D ++ Y).set (3 * n) o = D.set (3 * n) o ++ Y := fun Y o => by
      rw [List.set_append_left _ _ (by omega)]
    have hjB : j < B.length := by omega
    simp [Try.ntmps8, Try.results8, cSl, cp0, cp1, cn0, cI, cD, rI, rRoom, roomDec, hOV, hOH, hcx, hA2]
    have hBs : (B.map (irow .u8)).set j [.v (.int .u8 b)] = (B.set j b).map (irow .u8) := by rw [List.map_set]; rfl
    have hm : C.pure 26 [cold (view (some (2, [[AVal.fsl false 1 (List.map (irow IntKind.u8) cs), AVal.fsl false 1 (List.map (spR false) sp)]]) :: some (2, [[AVal.fsl true 1 (List.map (irow IntKind.u8) cx), AVal.fsl true 1 (List.map (spR true) sx)]]) :: none :: (D.set (3 * n) (some (1, (List.map (irow IntKind.u8) B).set j [AVal.v (Value.int IntKind.u8 b)])) ++ some (1, sRo 3 A) :: none :: (D2 ++ [some (1, sRo (D.length + 1 + 1 + 1 + 1 + 1) A2)]))) 4 (.osl (D.length + 4 + D2.length + 1) 1 0 sp.length sp.length)),
        cold (view (some (2, [[AVal.fsl false 1 (List.map (irow IntKind.u8) cs), AVal.fsl false 1 (List.map (spR false) sp)]]) :: some (2, [[AVal.fsl true 1 (List.map (irow IntKind.u8) cx), AVal.fsl true 1 (List.map (spR true) sx)]]) :: none :: (D.set (3 * n) (some (1, (List.map (irow IntKind.u8) B).set j [AVal.v (Value.int IntKind.u8 b)])) ++ some (1, sRo 3 A) :: none :: (D2 ++ [some (1, sRo (D.length + 1 + 1 + 1 + 1 + 1) A2)]))) 4 (.osl (D.length + 3) 1 0 sp.length sp.length))] = some (.v (.bool true)) := by
      generalize hH : (some (2, [[AVal.fsl false 1 (List.map (irow IntKind.u8) cs), AVal.fsl false 1 (List.map (spR false) sp)]]) :: some (2, [[AVal.fsl true 1 (List.map (irow IntKind.u8) cx), AVal.fsl true 1 (List.map (spR true) sx)]]) :: none :: (D.set (3 * n) (some (1, (List.map (irow IntKind.u8) B).set j [AVal.v (Value.int IntKind.u8 b)])) ++ some (1, sRo 3 A) :: none :: (D2 ++ [some (1, sRo (D.length + 1 + 1 + 1 + 1 + 1) A2)])) : Heap) = H
      have o1 : ∀ i, 3 * i < D.length → 3 * i ≠ 3 * n → obj H (3 * i + 3) = obj D (3 * i) := fun i hi hne => by
        rw [← hH]
        simp only [obj, List.getElem?_cons_succ]
        rw [List.getElem?_append_left (by rw [List.length_set]; exact hi), List.getElem?_set_ne (fun e => hne e.symm)]
      have o2 : obj H (3 * n + 3) = some (1, (B.set j b).map (irow .u8)) := by
        rw [← hH, hBs]
        simp only [obj, List.getElem?_cons_succ]
        rw [List.getElem?_append_left (by rw [List.length_set]; omega), List.getElem?_set_self (by omega)]
        rfl
      have o3 : obj H (D.length + 3) = some (1, sRo 3 A) := by
        rw [← hH]
        simp only [obj, List.getElem?_cons_succ]
        rw [List.getElem?_append_right (by rw [List.length_set]; exact Nat.le_refl _)]
        simp
      have o4 : ∀ i, i < D2.length → obj H (D.length + 5 + i) = obj D2 i := fun i hi => by
        rw [← hH, show D.length + 5 + i = D.length + 2 + i + 1 + 1 + 1 by omega]
        simp only [obj, List.getElem?_cons_succ]
        rw [List.getElem?_append_right (by rw [List.length_set]; omega), List.length_set, show D.length + 2 + i - D.length = i + 1 + 1 by omega]
        simp only [List.getElem?_cons_succ]
        rw [List.getElem?_append_left hi]
      have o5 : obj H (D.length + 4 + D2.length + 1) = some (1, sRo (D.length + 5) A2) := by
        rw [← hH, show D.length + 4 + D2.length + 1 = D.length + 2 + D2.length + 1 + 1 + 1 by omega]
        simp only [obj, List.getElem?_cons_succ]
        rw [List.getElem?_append_right (by rw [List.length_set]; omega), List.length_set, show D.length + 2 + D2.length - D.length = D2.length + 1 + 1 by omega]
        simp only [List.getElem?_cons_succ]
        rw [List.getElem?_append_right (Nat.le_refl _)]
        simp
      have e1 := dec_seen (H := H) (L := A2) (b := D.length + 5) (m := sp.length) (by omega) o5 sRo_len (fun i hi => sRo_get hi) (fun i hi hnz => by
        have h2 := sH_get hi
        rw [hD2, List.getElem?_append_left (by omega), oT_pos (by simpa using hnz)] at h2
        rw [o4 _ (by omega)]
        simp [obj, h2])
      have e2 := dec_seen (H := H) (L := A.set n (B.set j b)) (b := 3) (m := sp.length) (by simp; omega) o3 (by simp [sRo_len]) (fun i hi => by
        rw [List.length_set] at hi
        rw [sRo_get hi]
        by_cases e : i = n
        · subst e
          have hBz : ¬ B.set j b = [] := fun e => hBn (by simpa using e)
          simp [cellN, hgA, hBn, hBz]
        · rw [List.getElem_set_ne (fun q => e q.symm)]) (fun i hi hnz => by
        rw [List.length_set] at hi
        rw [Nat.add_comm]
        by_cases e : i = n
        · subst e; rw [o2]; simp
        · rw [List.getElem_set_ne (fun q => e q.symm)] at hnz ⊢
          have h2 := sH_get hi
          rw [hD, List.getElem?_append_left (by omega), oT_pos (by simpa using hnz)] at h2
          rw [o1 i (by omega) (by omega)]
          simp [obj, h2])
      rw [ch0]
      simp only [argM, e1, e2, finM]
      rw [if_pos ⟨by omega, hsm⟩]
      rw [hs]; simp
    have n1 : ¬ ((n : Nat) : Int) < 0 := by omega
    have n2 : ¬ ((j : Nat) : Int) < 0 := by omega
    have n3 : ¬ sp.length ≤ n := by omega
    have n4 : ¬ B.length ≤ j := by omega
    clear hD hD2
    simp [Try.ntmps8, Try.results8, cSl, cp0, cp1, cn0, cI, cD, -view, -cold, hOV2, hOH2, gD, hgr, hgr', hgi, hsi, hn, hrl, hjB, irow, hm, n1, n2, n3, n4]
    rcases hcc with ⟨rfl, hcl⟩ | ⟨rfl, hcl⟩
    · simp [Try.ntmps8, Try.results8, cSl, cp0, cp1, cn0, cI, cD, rI, rRoom, roomDec, ch1, hcx, hcl]
    · have w1 : IntKind.i64.wrap ((cs.length : Int) + 1 - cs.length) = 1 := by rw [show (cs.length : Int) + 1 - cs.length = 1 by omega]; rfl
      simp [Try.ntmps8, Try.results8, cSl, cp0, cp1, cn0, cI, cD, rI, rRoom, roomDec, ch1, hcx, hcl, w1]
end Go.Proofs.Ytfiindblaopaiaa
