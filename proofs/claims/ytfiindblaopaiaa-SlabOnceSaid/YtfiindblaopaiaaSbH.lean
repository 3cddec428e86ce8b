/- SlabOnce. -/
import Derived.Test.YtfiindblaopaiaaSbG
import Derived.Test.YtfiindblaopaiaaAiZe
import Derived.Test.YtfiindblaopaiaaAiZf
namespace Go.Proofs.Ytfiindblaopaiaa
open Go.AI
set_option maxHeartbeats 2000000
set_option maxRecDepth 100000
set_option linter.unusedSimpArgs false
set_option linter.unusedVariables false
attribute [local simp] wpA wpX RunA RunD runF foot footP footB idsA bare apart runL step1 gsel_f gsel_t gsel_s res_same res_and1 res_and2 res_and3 res_and4 res_and5 res_and6 res_false res_true res_v res_ptr res_fptr res_osl res_xsl soft aAppendZ aCap ovlI ovlJ res_fsl res_esl res_agg res_tup res_fn res_junk res_anyb aPick hk imp_left iteV dstOk guardOk astep astepE AI.ev AI.look AI.put envOf aBox cellsOf allOne allOneA oneA Value.oneCell' Value.cells newObj' aFieldAddr aLoad obj readAt thenA blockA condA retA resA tupA view hot hotC hotR depthV cAgg cInt cBool mkAgg allV aAlloc aBuild fillA writeAt aStore isAggA aField idx aIndexAddr aIndex bnd aSlice aExtract aLen aBuiltin aCall isStatic eqAgg eqTy eqC ev_add ev_sub ev_mul ev_quo ev_rem ev_and ev_or ev_xor ev_andNot ev_shl ev_shr ev_eql ev_neq ev_lss ev_leq ev_gtr ev_geq ev_agg w64 wu32 wu8 ev_not ev_neg Cod.plain RCod.plain argM finM cold coldC coldR goInt intDec boolDec aggDec Weaker heapW lowA lowC Again slDec undef aBuildSlice setRows aAppend rowsOf aMakeSlice aClear aCopy softer_self softer_nil valsOf ev_min2 ev_max2 hotR_set hotR_append take_map_set irow_cold irow_mapM irow_mapMc irow_view irow_viewc irow_hotR irow_ren irow_renc irow_low WeakT heapT thOf ren renC AgainT NextF NextT fnDec cFn rNil selfLt natLt0 natLt1 getLastMap frame0 frame1 own0 own1 argG finG tau tauI tauO tauC bareA bareC bareH irow_tau irow_tauc irow_bare irow_flat irow_bareR ownA_nil ownT_nil ownA_c ownT_c ownA_s ownT_s takeMapLen footC plainA noId noIdC cloneF frame0F frame1F insertF replaceI replaceF cellDec rCell fpDec cFp rTwo deleteF allV_oA oneA_oA res_oA RunR RunE runFT footAt hotR_cat tmodN frameN newA newC newH fxSz2 fxBy2 fxAg2 fxZe2 fxSl2 fxAr2 fxPl2 fxSz3 fxBy3 fxAg3 fxZe3 fxSl3 fxAr3 fxPl3 fxSz4 fxBy4 fxAg4 fxZe4 fxSl4 fxAr4 fxPl4 fxSz5 fxBy5 fxAg5 fxZe5 fxSl5 fxAr5 fxPl5 fxSz9 fxBy9 fxAg9 fxZe9 fxSl9 fxAr9 fxPl9 fxSz12 fxBy12 fxAg12 fxZe12 fxSl12 fxAr12 fxPl12 fxSz13 fxBy13 fxAg13 fxZe13 fxSl13 fxAr13 fxFi13x0 fxFi13x1 fxPl13 fxSz21 fxBy21 fxAg21 fxZe21 fxSl21 fxAr21 fxPl21 fxSz22 fxBy22 fxAg22 fxZe22 fxSl22 fxAr22 fxPl22 fxSz23 fxBy23 fxAg23 fxZe23 fxSl23 fxAr23 fxFi23x0 fxFi23x1 fxPl23 fxSz24 fxBy24 fxAg24 fxZe24 fxSl24 fxAr24 fxFi24x0 fxFi24x1 fxPl24 fxSz25 fxBy25 fxAg25 fxZe25 fxSl25 fxAr25 fxFi25x0 fxFi25x1 fxPl25 fxSz26 fxBy26 fxAg26 fxZe26 fxSl26 fxAr26 fxFi26x0 fxFi26x1 fxPl26 fxSz27 fxBy27 fxAg27 fxZe27 fxSl27 fxAr27 fxPl27 fxSz34 fxBy34 fxAg34 fxZe34 fxSl34 fxAr34 fxPl34 fxSz37 fxBy37 fxAg37 fxZe37 fxSl37 fxAr37 fxPl37 fxSz45 fxBy45 fxAg45 fxZe45 fxSl45 fxAr45 fxFi45x0 fxFi45x1 fxPl45 fxSz46 fxBy46 fxAg46 fxZe46 fxSl46 fxAr46 fxFi46x0 fxFi46x1 fxPl46 fxSz48 fxBy48 fxAg48 fxZe48 fxSl48 fxAr48 fxPl48 fxSz49 fxBy49 fxAg49 fxZe49 fxSl49 fxAr49 fxPl49 fxSz50 fxBy50 fxAg50 fxZe50 fxSl50 fxAr50 fxFi50x0 fxFi50x1 fxPl50 fxSz51 fxBy51 fxAg51 fxZe51 fxSl51 fxAr51 fxFi51x0 fxFi51x1 fxPl51 fxSz57 fxBy57 fxAg57 fxZe57 fxSl57 fxAr57 fxPl57 fxSz69 fxBy69 fxAg69 fxZe69 fxSl69 fxAr69 fxPl69 fxSz70 fxBy70 fxAg70 fxZe70 fxSl70 fxAr70 fxPl70 fxSz92 fxBy92 fxAg92 fxZe92 fxSl92 fxAr92 fxPl92 fxSz107 fxBy107 fxAg107 fxZe107 fxSl107 fxAr107 fxPl107 fxSz108 fxBy108 fxAg108 fxZe108 fxSl108 fxAr108 fxFi108x0 fxPl108 fxSz111 fxBy111 fxAg111 fxZe111 fxSl111 fxAr111 fxPl111 fxSz115 fxBy115 fxAg115 fxZe115 fxSl115 fxAr115 fxPl115 fxSz120 fxBy120 fxAg120 fxZe120 fxSl120 fxAr120 fxPl120 fxEq26 fxEq70 fxCv2x2 fxCv2x3 fxCv2x5 fxCv2x12 fxCv2x21 fxCv2x27 fxCv2x111 fxCv3x2 fxCv3x3 fxCv3x5 fxCv3x12 fxCv3x21 fxCv3x27 fxCv3x111 fxCv5x2 fxCv5x3 fxCv5x5 fxCv5x12 fxCv5x21 fxCv5x27 fxCv5x111 fxCv12x2 fxCv12x3 fxCv12x5 fxCv12x12 fxCv12x21 fxCv12x27 fxCv12x111 fxCv21x2 fxCv21x3 fxCv21x5 fxCv21x12 fxCv21x21 fxCv21x27 fxCv21x111 fxCv27x2 fxCv27x3 fxCv27x5 fxCv27x12 fxCv27x21 fxCv27x27 fxCv27x111 fxCv111x2 fxCv111x3 fxCv111x5 fxCv111x12 fxCv111x21 fxCv111x27 fxCv111x111 fxEb4 fxNb4 fxLt9 fxLn22 fxNe22 fxNn22 fxOe22 fxOn22 fxXe22 fxXn22 fxLn34 fxNe34 fxNn34 fxOe34 fxOn34 fxXe34 fxXn34 fxLn37 fxNe37 fxNn37 fxOe37 fxOn37 fxXe37 fxXn37 fxLn48 fxNe48 fxNn48 fxOe48 fxOn48 fxXe48 fxXn48 fxLn49 fxNe49 fxNn49 fxOe49 fxOn49 fxXe49 fxXn49 fxLn57 fxNe57 fxNn57 fxOe57 fxOn57 fxXe57 fxXn57 fxLn69 fxNe69 fxNn69 fxOe69 fxOn69 fxXe69 fxXn69 fxLn92 fxNe92 fxNn92 fxOe92 fxOn92 fxXe92 fxXn92 fxFn3 fxFm3 fxFb3 fxFi3 fxFj3 fxFn4 fxFm4 fxFb4 fxFi4 fxFj4 fxFn5 fxFm5 fxFb5 fxFi5 fxFj5 fxFn6 fxFm6 fxFb6 fxFi6 fxFj6 fxFn7 fxFm7 fxFb7 fxFi7 fxFj7 fxFn8 fxFm8 fxFb8 fxFi8 fxFj8 fxFn9 fxFm9 fxFb9 fxFi9 fxFj9 fxFn10 fxFm10 fxFb10 fxFi10 fxFj10 fxFn11 fxFm11 fxFb11 fxFi11 fxFj11 fxFn12 fxFm12 fxFb12 fxFi12 fxFj12 fxFn13 fxFm13 fxFb13 fxFi13 fxFj13 fxFn14 fxFm14 fxFb14 fxFi14 fxFj14 fxFn15 fxFm15 fxFb15 fxFi15 fxFj15 fxFn16 fxFm16 fxFb16 fxFi16 fxFj16 fxFn17 fxFm17 fxFb17 fxFi17 fxFj17 fxFn18 fxFm18 fxFb18 fxFi18 fxFj18 fxFn19 fxFm19 fxFb19 fxFi19 fxFj19 fxFn20 fxFm20 fxFb20 fxFi20 fxFj20 fxFn21 fxFm21 fxFb21 fxFi21 fxFj21 fxFn22 fxFm22 fxFb22 fxFi22 fxFj22 fxFn23 fxFm23 fxFb23 fxFi23 fxFj23 fxFn24 fxFm24 fxFb24 fxFi24 fxFj24 fxFn25 fxFm25 fxFb25 fxFi25 fxFj25 fxFn26 fxFm26 fxFb26 fxFi26 fxFj26 fxFn27 fxFm27 fxFb27 fxFi27 fxFj27 fxFn28 fxFm28 fxFb28 fxFi28 fxFj28 fxFn29 fxFm29 fxFb29 fxFi29 fxFj29 fxFn30 fxFm30 fxFb30 fxFi30 fxFj30 fxFn31 fxFm31 fxFb31 fxFi31 fxFj31 fxFn32 fxFm32 fxFb32 fxFi32 fxFj32 fxFn33 fxFm33 fxFb33 fxFi33 fxFj33 fxFn34 fxFm34 fxFb34 fxFi34 fxFj34 fxFn35 fxFm35 fxFb35 fxFi35 fxFj35 fxFn36 fxFm36 fxFb36 fxFi36 fxFj36 fxFn37 fxFm37 fxFb37 fxFi37 fxFj37 fxFn38 fxFm38 fxFb38 fxFi38 fxFj38 fxFn39 fxFm39 fxFb39 fxFi39 fxFj39 fxFn40 fxFm40 fxFb40 fxFi40 fxFj40 fxFn41 fxFm41 fxFb41 fxFi41 fxFj41 fxFn42 fxFm42 fxFb42 fxFi42 fxFj42 fxFn43 fxFm43 fxFb43 fxFi43 fxFj43 fxFn44 fxFm44 fxFb44 fxFi44 fxFj44 fxFn45 fxFm45 fxFb45 fxFi45 fxFj45 fxFn46 fxFm46 fxFb46 fxFi46 fxFj46 fxFn47 fxFm47 fxFb47 fxFi47 fxFj47 fxFn48 fxFm48 fxFb48 fxFi48 fxFj48 fxFn49 fxFm49 fxFb49 fxFi49 fxFj49 fxFn50 fxFm50 fxFb50 fxFi50 fxFj50 fxFn51 fxFm51 fxFb51 fxFi51 fxFj51 fxFn52 fxFm52 fxFb52 fxFi52 fxFj52 fxFn53 fxFm53 fxFb53 fxFi53 fxFj53 fxFn54 fxFm54 fxFb54 fxFi54 fxFj54 fxFn55 fxFm55 fxFb55 fxFi55 fxFj55 fxFn56 fxFm56 fxFn57 fxFm57 fxFb57 fxFi57 fxFj57 fxFn58 fxFm58 fxFb58 fxFi58 fxFj58 fxFn59 fxFm59 fxFn60 fxFm60 fxFb60 fxFi60 fxFj60 fxFn61 fxFm61 fxFb61 fxFi61 fxFj61 fxFn62 fxFm62 fxFb62 fxFi62 fxFj62 fxFn63 fxFm63 fxFb63 fxFi63 fxFj63 fxFn64 fxFm64 fxFb64 fxFi64 fxFj64 fxFn65 fxFm65 fxFb65 fxFi65 fxFj65 fxFn66 fxFm66 fxFb66 fxFi66 fxFj66
attribute [local simp] Place.eta Place.cold Place.mapM Place.mapMc Place.view Place.viewc Place.hotR Place.ren Place.renc Place.low Place.tau Place.tauc Place.bare Place.flat Place.flat1 Place.mapMt Place.mapMd Place.coldt Place.coldd Place.hotRt Place.hotRd
attribute [local simp] Box.eta Box.dec_row Box.dec_hrow Box.cold Box.hcold Box.mapM Box.mapMc Box.hmapM Box.hmapMc Box.view Box.viewc Box.hview Box.hviewc Box.hotR Box.ren Box.renc Box.low Box.hlow
attribute [local simp] Slb.eta Slb.dec_row Slb.dec_hrow
def rCapQ : RCod (Place × Int) := rTwo (cFp rPlace) (cFp (rI .i64))
def meetQ (c : Place × Int) (q : Place) : Bool := decide (q.frame = c.1.frame) && decide (q.at_ < IntKind.i64.wrap (c.1.at_ + c.2)) && decide (c.1.at_ < IntKind.i64.wrap (q.at_ + c.2))
theorem once1_pure : PureOk Try.prog 17 (argM (cAgg rPlace) fun q => argM (cFp rPlace) fun p => argM (cFp (rI .i64)) fun z => finM (some (.v (.bool (meetQ (p, z) q))))) := by
  refine pure3 Try.func17 rfl ?_
  rintro q p z r hr
  simp only [Option.some.injEq] at hr
  subst hr
  refine body_gen noOrc_ok fxMix (by kernel_rfl) (by simp [Try.ntmps17]) ?_
  intro C cP cI cN cD cF cA
  replace cI : C.inl = fun _ => false := cI
  replace cD : C.dyn = fun _ => [] := cD
  clear cP cN cF cA
  simp [Try.ntmps17, Try.results17, cSl, cI, cD, rPlace, Place.row, placeDec, rI, irow, meetQ]
theorem onceI_pure : PureOk Try.prog 42 (argM (cSl rPlace) fun l => argM (cFn 17 rCapQ) fun cp => finM (if l.length ≤ 4294967296 then some (.v (.int .i64 (idxP ((meetQ cp)) l))) else none)) := by
  refine pure2 Try.func42 rfl ?_
  rintro l cp r hr
  by_cases hc : l.length ≤ 4294967296
  case neg => rw [if_neg hc] at hr; cases hr
  rw [if_pos hc] at hr
  simp only [Option.some.injEq] at hr
  subst hr
  refine body_gen (noOrc_ok.withP once1_pure) fxMix (by kernel_rfl) (by simp [Try.ntmps42]) ?_
  intro C cP cI cN cD cF cA
  have cp0 := orcP once1_pure (C := C) (by rw [cP]; rfl)
  replace cI : C.inl = fun _ => false := cI
  replace cD : C.dyn = fun _ => [] := cD
  clear cP cN cF cA
  simp [Try.ntmps42, Try.results42, cSl, cp0, cI, cD, rPlace, Place.row, placeDec, rCapQ, rI, irow, irowDec]
  refine loop_for l.length (fun k (_ : Unit) => ([(0, .fsl false 2 (l.map Place.row)), (1, .fn 17 [.fptr cp.1.row 0, .fptr (irow .i64 cp.2) 0]), (7, .v (.int .i64 l.length)), (8, .v (.int .i64 k))], [])) (fun k _ => ((l.drop k).findIdx? ((meetQ cp))).map (· + k) = l.findIdx? ((meetQ cp))) () hc (by simp) (by simp [rPlace, Place.row, placeDec, rCapQ, rI, irow, irowDec]) ?_ ?_
  · intro k _ hk hall hw
    by_cases q : ((meetQ cp)) l[k] = true
    · rw [find_drop hk, if_pos q] at hall
      try simp at q
      simp [Try.ntmps42, Try.results42, cSl, cp0, cI, cD, hk, hw, rPlace, Place.row, placeDec, rCapQ, rI, irow, irowDec, q, idxP, ← hall]
    · rw [find_drop hk, if_neg q] at hall
      try simp at q
      simp [Try.ntmps42, Try.results42, cSl, cp0, cI, cD, hk, hw, rPlace, Place.row, placeDec, rCapQ, rI, irow, irowDec, q]
      simpa using hall
  · intro _ hall
    simp at hall
    simp [Try.ntmps42, Try.results42, cSl, cp0, cI, cD, idxP, ← hall]
theorem onceC_pure : PureOk Try.prog 16 (argM (cSl rPlace) fun l => argM (cFn 17 rCapQ) fun cp => finM (if l.length ≤ 4294967296 then some (.v (.bool (l.any ((meetQ cp))))) else none)) := by
  refine pure2 Try.func16 rfl ?_
  rintro l cp r hr
  by_cases hc : l.length ≤ 4294967296
  case neg => rw [if_neg hc] at hr; cases hr
  rw [if_pos hc] at hr
  simp only [Option.some.injEq] at hr
  subst hr
  refine body_gen (noOrc_ok.withP onceI_pure) fxMix (by kernel_rfl) (by simp [Try.ntmps16]) ?_
  intro C cP cI cN cD cF cA
  have cp0 := orcP onceI_pure (C := C) (by rw [cP]; rfl)
  replace cI : C.inl = fun _ => false := cI
  replace cD : C.dyn = fun _ => [] := cD
  clear cP cN cF cA
  simp [Try.ntmps16, Try.results16, cSl, cp0, cI, cD, hc, idxP_iff, rPlace, Place.row, placeDec, rCapQ, rI, irow, irowDec] <;> (rw [Bool.eq_iff_iff]; simp)
theorem plDel : InlOk Try.prog 19 (deleteI 2) := by
  refine delete_of (z := [.v (.int .i64 0), .v (.int .i64 0)]) Try.func19 rfl (by simp [Try.ntmps19]) ?_
  intro H id i rows h1 h2 h3 h4
  refine wpA_sound noOrc_ok fxMix _ _ _ _ (by kernel_rfl) ?_
  have h1' := obj_get h1
  have g1 := (List.getElem?_eq_some_iff.1 h1').2
  have c1 : (i : Int) + 1 ≤ rows.length := by omega
  have c2 : 0 ≤ (i : Int) + 1 := by omega
  have c3 : (i : Int) ≤ i + 1 := by omega
  have c4 : i ≤ rows.length := by omega
  have c5 : i + 1 ≤ rows.length := by omega
  have c6 : i + 1 + (rows.length - (i + 1)) ≤ rows.length := by omega
  have c7 : i + (rows.length - (i + 1)) ≤ rows.length := by omega
  have c8 : i + (rows.length - (i + 1)) = rows.length - 1 := by omega
  have c9 : rows.length - 1 ≤ rows.length := by omega
  have d1 : ¬ ((i : Int) = i + 1) := by omega
  have d2 : List.take (rows.length - (i + 1)) (List.drop (i + 1) rows) = List.drop (i + 1) rows := List.take_of_length_le (by simp)
  have d3 : rows.length - (rows.length - 1) = 1 := by omega
  have d4 : (rows.length - 1) + 1 = rows.length := by omega
  have d5 : ¬ rows.length = i := by omega
  have d6 : ¬ rows.length = 0 := by omega
  have d7 : rows.length ≤ 4294967296 := by omega
  have d8 : i + (rows.length - (i + 1)) ≤ 4294967296 := by omega
  have f1 : rows.length ≤ 4294967297 := by omega
  have f2 : rows.length ≤ i + (rows.length - (i + 1) + 1) := by omega
  have d9 : ∀ X : List Row, List.take (rows.length - 1) (List.take i rows ++ (List.drop (i + 1) rows ++ X)) = List.take i rows ++ List.drop (i + 1) rows := by
    intro X
    rw [← List.append_assoc, List.take_append_of_le_length (by simp; omega), List.take_of_length_le (by simp; omega)]
  have e1 : List.drop rows.length (List.take i rows ++ (List.drop (i + 1) rows ++ List.drop (rows.length - 1) rows)) = [] := List.drop_eq_nil_of_le (by simp; omega)
  have e2 : rows.length - 1 ≤ i + (rows.length - (i + 1) + 1) := by omega
  have e3 : min i rows.length = i := by omega
  have e4 : ((rows.length - 1 : Nat) : Int) ≤ rows.length := by omega
  simp [Try.ntmps19, Try.results19, noOrc, h1', h2, h3, g1, c1, c2, c3, c4, c5, c6, c7, c8, c9, d1, d2, d3, d4, d5, d6, d7, d8, d9, e1, e2, e3, e4, f1, f2]
theorem mod_at (b : Int) {n : Nat} (h : 0 < n) (h2 : n ≤ 100) : ∃ m : Nat, m < n ∧ Int.tmod (IntKind.i64.wrap (Int.tmod b n + n)) n = (m : Int) := by
  have h1 := Int.tmod_lt_of_pos b (show (0 : Int) < n by omega)
  have h3 := Int.tmod_lt_of_pos (-b) (show (0 : Int) < n by omega)
  rw [Int.neg_tmod] at h3
  rw [w64 (by omega) (by omega)]
  have h4 := Int.tmod_nonneg (n : Int) (show 0 ≤ Int.tmod b n + n by omega)
  have h5 := Int.tmod_lt_of_pos (Int.tmod b n + n) (show (0 : Int) < n by omega)
  exact ⟨(Int.tmod (Int.tmod b n + n) n).toNat, by omega, by omega⟩
theorem meet_no {s : Slb} {z : Int} {p q : Place} (h : slCheck s = 0) (hz : s.size = z) (hp : p ∈ slots s.boxes) (hq : q ∈ slots s.boxes) (hne : q ≠ p) : meetQ (p, z) q = false := by
  have h1 := apart_slots h hp hq hne
  have h2 := fit_slot h hp
  have h3 := fit_slot h hq
  have h4 := sl_ok.1 h
  subst hz
  unfold meetQ
  simp only
  rw [w64 (by omega) (by omega), w64 (by omega) (by omega)]
  cases hh : (decide (q.frame = p.frame) && decide (q.at_ < p.at_ + s.size) && decide (p.at_ < q.at_ + s.size)) with
  | false => rfl
  | true => simp only [Bool.and_eq_true, decide_eq_true_eq] at hh; exact absurd ⟨hh.1.1, hh.1.2, hh.2⟩ h1
def hvA (nl : Bool) (l : List Place) : AVal := if nl then .v (.slice none 0 0) else .osl 2 2 0 l.length l.length
def hvT (nl : Bool) (l : List Place) : Heap := if nl then [] else [some (2, l.map Place.row)]
theorem once_pure : PureOk Try.prog 4 (argM (cInt .i64) fun z => argM (cSl (rI .i64)) fun fs => argM (cSl (rI .i64)) fun back => finM (some (.v (.bool true)))) := by
  refine pure3 Try.func4 rfl ?_
  rintro z fs back r hr
  simp only [Option.some.injEq] at hr
  subst hr
  refine body_gen (((((((((noOrc_ok.withP new_pure).withP slTake_pure).withP slGive_pure).withP slMany_pure).withP slCheck_pure).withP slabs_pure).withP onceC_pure).withIF plDel delete_loc).withD (fun i => if i = 13 then [(0,3),(0,4)] else if i = 16 then [(0,10),(4,10),(5,10)] else if i = 19 then [(0,5)] else [])) fxMix (by kernel_rfl) (by simp [Try.ntmps4]) ?_
  intro C cP cI cN cD cF cA
  have cp0 := orcP new_pure (C := C) (by rw [cP]; rfl)
  have cp1 := orcP slTake_pure (C := C) (by rw [cP]; rfl)
  have cp2 := orcP slGive_pure (C := C) (by rw [cP]; rfl)
  have cp3 := orcP slMany_pure (C := C) (by rw [cP]; rfl)
  have cp4 := orcP slCheck_pure (C := C) (by rw [cP]; rfl)
  have cp5 := orcP slabs_pure (C := C) (by rw [cP]; rfl)
  have cp6 := orcP onceC_pure (C := C) (by rw [cP]; rfl)
  have cn0 := orcI plDel (C := C) (by rw [cN]; rfl)
  replace cI := fun g => congrFun cI g
  simp only [Orc.withP, Orc.withI, Orc.withF, Orc.withD, Orc.withA, noOrc] at cI
  replace cD : C.dyn = fun i => if i = 13 then [(0,3),(0,4)] else if i = 16 then [(0,10),(4,10),(5,10)] else if i = 19 then [(0,5)] else [] := cD
  replace cF := fun g => congrFun cF g
  simp only [Orc.withP, Orc.withI, Orc.withF, Orc.withD, Orc.withA, noOrc] at cF
  replace cA : C.alt = fun _ => [] := cA
  clear cP cN
  by_cases h0 : newS z = 0
  case neg =>
    simp [Try.ntmps4, Try.results4, cSl, cp0, cp1, cp2, cp3, cp4, cp5, cp6, cn0, cI, cD, cF, cA, h0, rI]
    done
  have hz : 1 ≤ z ∧ z ≤ 16 := by unfold newS at h0; split at h0 <;> simp_all
  simp [Try.ntmps4, Try.results4, cSl, cp0, cp1, cp2, cp3, cp4, cp5, cp6, cn0, cI, cD, cF, cA, h0, rI]
  refine loop_forE fs.length (fun k (x : Slb × List Place × Bool) => ([(2, .fsl false 1 (back.map (irow .i64))), (3, .ptr 0 1 0 0), (7, .ptr 1 2 0 0), (9, hvA x.2.2 x.2.1), (41, .fsl false 1 (fs.map (irow .i64))), (42, .v (.int .i64 fs.length)), (43, .v (.int .i64 k))], [some (1, [[.v (.int .i64 z)]]), some (2, [x.1.hrow])] ++ hvT x.2.2 x.2.1)) (fun k x => (k ≤ 60 ∧ slCheck x.1 = 0 ∧ x.1.size = z) ∧ (slots x.1.boxes).Perm x.2.1 ∧ x.2.1.length ≤ k ∧ (x.2.2 = true → x.2.1 = [])) (⟨z, []⟩, [], true) (by rintro k _ _ h; omega) ?_ ?_ ?_ ?_
  · refine ⟨⟨by omega, ?_, rfl⟩, .nil, by simp, fun _ => rfl⟩
    exact sl_ok.2 ⟨hz.1, hz.2, by simp, by simp [OkL]⟩
  · refine .trans (.weak ?_) (.cell (M := 1) (i := 0) (j := 1) (R := [[.v (.int .i64 z), .v (.slice none 0 0)]]) rfl rfl rfl (r := .fsl true 2 []) .nil)
    simp [hvA, hvT, Slb.hrow]
  · rintro k ⟨s, hv, nl⟩ hk ⟨⟨hk60, hck, hsz⟩, hperm, hvl, hnl⟩ hw
    simp only at hck hsz hperm hvl hnl
    have hoS := okS_of hck
    by_cases hge : k = 60
    · subst hge
      have hk' : (60 : Int) < fs.length := by omega
      have hl0 : (slots s.boxes).length = hv.length := hperm.length_eq
      cases nl
      · simp [Try.ntmps4, Try.results4, cSl, cp0, cp1, cp2, cp3, cp4, cp5, cp6, cn0, cI, cD, cF, cA, hk, hk', hw, irow, rSlb, slbDec, rBox, Slb.row, Slb.hrow, hoS, hck, slMany, hl0, hvA, hvT]
      · have := hnl rfl
        subst this
        simp [Try.ntmps4, Try.results4, cSl, cp0, cp1, cp2, cp3, cp4, cp5, cp6, cn0, cI, cD, cF, cA, hk, hk', hw, irow, rSlb, slbDec, rBox, Slb.row, Slb.hrow, hoS, hck, slMany, hl0, hvA, hvT]
    have hge' : ¬ (60 : Int) ≤ k := by omega
    have hk' : (k : Int) < fs.length := by omega
    obtain ⟨sz, L⟩ := s
    simp only at hsz hperm
    subst hsz
    have hv16 : ∀ q ∈ hv, q ∈ slots L := fun q hq => hperm.symm.subset hq
    have hhv : hv.length ≤ 4294967296 := by omega
    cases ht : slTake ⟨sz, L⟩ fs[k] with
    | error e =>
      obtain ⟨he, _⟩ := slTakeErr ht
      by_cases hv0 : hv = []
      · subst hv0
        cases nl <;> simp [Try.ntmps4, Try.results4, cSl, cp0, cp1, cp2, cp3, cp4, cp5, cp6, cn0, cI, cD, cF, cA, hk, hk', hw, hge', irow, rSlb, slbDec, rBox, Slb.row, Slb.hrow, hoS, hck, ht, slTkE, he, hvA, hvT]
        · exact ⟨(⟨sz, L⟩, [], false), ⟨⟨by omega, hck, rfl⟩, hperm, by simp, by simp⟩, .weak (by simp [hvA, hvT])⟩
        · exact ⟨(⟨sz, L⟩, [], true), ⟨⟨by omega, hck, rfl⟩, hperm, by simp, by simp⟩, .weak (by simp [hvA, hvT])⟩
      · have hpos : 0 < hv.length := List.length_pos_iff.2 hv0
        have hpos' : (0 : Int) < hv.length := by omega
        obtain rfl : nl = false := by cases nl <;> simp_all
        by_cases hkb : k < back.length
        · have hkb' : (k : Int) < back.length := by omega
          obtain ⟨m, hm1, hm2⟩ := mod_at back[k] hpos (by omega)
          have hm1' : (m : Int) < hv.length := by omega
          have hin := hv16 _ (List.getElem_mem hm1)
          obtain ⟨b, gone, hg, hgk, hgs, hgp⟩ := give_spec hck hin
          have wm : IntKind.i64.wrap ((m : Int) + 1) = (m : Int) + 1 := w64 (by omega) (by omega)
          have hv1 : hv.length ≤ 1048576 := by omega
          simp [Try.ntmps4, Try.results4, cSl, cp0, cp1, cp2, cp3, cp4, cp5, cp6, cn0, cI, cD, cF, cA, hk, hk', hw, hge', hkb, hkb', irow, rSlb, slbDec, rBox, Slb.row, Slb.hrow, hoS, hck, ht, slTkE, he, hvA, hvT, hpos, hpos', hm1, hm1', hm2, hg, slGvE, rPlace, placeDec, Place.row, hv0, wm, hv1, deleteI]
          have hE : (hv.eraseIdx m).length = hv.length - 1 := by rw [List.length_eraseIdx, if_pos hm1]
          have hP : (slots b.boxes).Perm (hv.eraseIdx m) := by
            have h1 := hgp.symm.trans hperm
            have h2 : hv.Perm (hv[m] :: hv.eraseIdx m) := by
              have e : hv = hv.take m ++ hv[m] :: hv.drop (m + 1) := by rw [← List.drop_eq_getElem_cons hm1, List.take_append_drop]
              rw [List.eraseIdx_eq_take_drop_succ]
              exact (List.Perm.of_eq e).trans List.perm_middle
            exact (h1.trans h2).cons_inv
          exact ⟨(b, hv.eraseIdx m, false), ⟨⟨by omega, hgk, hgs⟩, hP, by show (hv.eraseIdx m).length ≤ k + 1; omega, by simp⟩, .weak (by simp [hvA, hvT, hE, er_map])⟩
        · have hkb' : ¬ (k : Int) < back.length := by omega
          simp [Try.ntmps4, Try.results4, cSl, cp0, cp1, cp2, cp3, cp4, cp5, cp6, cn0, cI, cD, cF, cA, hk, hk', hw, hge', hkb, hkb', irow, rSlb, slbDec, rBox, Slb.row, Slb.hrow, hoS, hck, ht, slTkE, he, hvA, hvT, hpos, hpos']
          exact ⟨(⟨sz, L⟩, hv, false), ⟨⟨by omega, hck, rfl⟩, hperm, by show hv.length ≤ k + 1; omega, by simp⟩, .weak (by simp [hvA, hvT])⟩
    | ok r =>
      obtain ⟨a, p, fresh⟩ := r
      obtain ⟨k1, k2, k3, k4, k5, k6, k7⟩ := take_spec hck ht
      have hoa := okS_of k1
      obtain ⟨az, aL⟩ := a
      simp only at k2 k3 k4
      subst k2
      have hpa : p ∈ slots aL := k3.symm.subset List.mem_cons_self
      have hno : ∀ q ∈ hv, meetQ (p, az) q = false := fun q hq => meet_no k1 rfl hpa (k3.symm.subset (List.mem_cons_of_mem _ (hv16 q hq))) (fun e => k4 (e ▸ hv16 q hq))
      have hno1 : (∀ q, q ∈ hv → meetQ (p, az) q = false) = True := eq_true hno
      obtain ⟨hf1, hf2⟩ := fit_slot k1 hpa
      obtain ⟨hz1, hz2, _⟩ := sl_ok.1 k1
      simp only at hf2 hz1 hz2
      have hf1' : ¬ p.at_ < 0 := by omega
      have wp : IntKind.i64.wrap (p.at_ + az) = p.at_ + az := w64 (by omega) (by omega)
      have hf2' : ¬ 16 < p.at_ + az := by omega
      have hP2 : (slots aL).Perm (hv ++ [p]) := (k3.trans (hperm.cons _)).trans (List.perm_append_singleton _ _).symm
      have hin1 : ∀ q ∈ hv ++ [p], q ∈ slots aL := fun q hq => hP2.symm.subset hq
      have hl1 : (hv ++ [p]).length = hv.length + 1 := by simp
      have n1 : ¬ hv.length + 1 ≤ hv.length := by omega
      have n2 : hv.length + 1 ≤ 4294967296 := by omega
      by_cases hkb : k < back.length
      · have hkb' : (k : Int) < back.length := by omega
        obtain ⟨m, hm1, hm2⟩ := mod_at back[k] (n := hv.length + 1) (by omega) (by omega)
        have hm1' : (m : Int) < hv.length + 1 := by omega
        have hm1'' : m < (hv ++ [p]).length := by omega
        have hin := hin1 _ (List.getElem_mem hm1'')
        obtain ⟨b, gone, hg, hgk, hgs, hgp⟩ := give_spec k1 hin
        have wm : IntKind.i64.wrap ((m : Int) + 1) = (m : Int) + 1 := w64 (by omega) (by omega)
        have hv1 : hv.length + 1 ≤ 1048576 := by omega
        have hz0 : ¬ (hv.length : Int) + 1 = 0 := by omega
        have hgr : (hv.map Place.row ++ [p.row])[m]? = some (Place.row ((hv ++ [p])[m]'hm1'')) := by
          have : hv.map Place.row ++ [p.row] = (hv ++ [p]).map Place.row := by simp
          rw [this]; simp only [List.getElem?_map, List.getElem?_eq_getElem hm1'', Option.map_some]
        have hE : ((hv ++ [p]).eraseIdx m).length = hv.length := by rw [List.length_eraseIdx, if_pos hm1'']; simp
        have hP : (slots b.boxes).Perm ((hv ++ [p]).eraseIdx m) := by
          have h1 := hgp.symm.trans hP2
          have h2 : (hv ++ [p]).Perm ((hv ++ [p])[m] :: (hv ++ [p]).eraseIdx m) := by
            have e : hv ++ [p] = (hv ++ [p]).take m ++ (hv ++ [p])[m] :: (hv ++ [p]).drop (m + 1) := by rw [← List.drop_eq_getElem_cons hm1'', List.take_append_drop]
            rw [List.eraseIdx_eq_take_drop_succ]
            exact (List.Perm.of_eq e).trans List.perm_middle
          exact (h1.trans h2).cons_inv
        generalize hpm : (hv ++ [p])[m]'hm1'' = pm at *
        simp only [Place.row] at hgr
        have hEr : (hv.map Place.row ++ [([.v (.int .i64 p.frame), .v (.int .i64 p.at_)] : Row)]).eraseIdx m = ((hv ++ [p]).eraseIdx m).map Place.row := by
          rw [← er_map]; simp [Place.row]
        simp only [Int.natCast_add, Int.cast_ofNat_Int] at hm2
        cases nl
        · simp [Try.ntmps4, Try.results4, cSl, cp0, cp1, cp2, cp3, cp4, cp5, cp6, cn0, cI, cD, cF, cA, hk, hk', hw, hge', hkb, hkb', irow, rSlb, slbDec, rBox, Slb.row, Slb.hrow, hoS, hck, ht, slTkE, hvA, hvT, hhv, hno1, rCapQ, rI, irowDec, hf1', wp, hf2', n1, n2, hm1', hm2, hz0, hoa, hg, slGvE, rPlace, placeDec, Place.row, wm, hv1, deleteI, hgr, hEr]
          exact ⟨(b, (hv ++ [p]).eraseIdx m, false), ⟨⟨by omega, hgk, hgs⟩, hP, by show ((hv ++ [p]).eraseIdx m).length ≤ k + 1; omega, by simp⟩, .weakT (th := [0, 1, 6]) (by simp [hE, hEr])⟩
        · have := hnl rfl
          subst this
          obtain rfl : m = 0 := by simp at hm1; omega
          obtain rfl : p = pm := by simpa using hpm
          simp at hP
          simp [Try.ntmps4, Try.results4, cSl, cp0, cp1, cp2, cp3, cp4, cp5, cp6, cn0, cI, cD, cF, cA, hk, hk', hw, hge', hkb, hkb', irow, rSlb, slbDec, rBox, Slb.row, Slb.hrow, hoS, hck, ht, slTkE, hvA, hvT, hhv, hno1, rCapQ, rI, irowDec, hf1', wp, hf2', n1, n2, hm1', hm2, hz0, hoa, hg, slGvE, rPlace, placeDec, Place.row, wm, hv1, deleteI]
          exact ⟨(b, [], false), ⟨⟨by omega, hgk, hgs⟩, by simpa using hP, by simp, by simp⟩, .weakT (th := [0, 1, 5]) (by simp)⟩
      · have hkb' : ¬ (k : Int) < back.length := by omega
        cases nl
        · simp [Try.ntmps4, Try.results4, cSl, cp0, cp1, cp2, cp3, cp4, cp5, cp6, cn0, cI, cD, cF, cA, hk, hk', hw, hge', hkb, hkb', irow, rSlb, slbDec, rBox, Slb.row, Slb.hrow, hoS, hck, ht, slTkE, hvA, hvT, hhv, hno1, rCapQ, rI, irowDec, hf1', wp, hf2', n1, n2, rPlace, placeDec, Place.row]
          exact ⟨(⟨az, aL⟩, hv ++ [p], false), ⟨⟨by omega, k1, rfl⟩, hP2, by show (hv ++ [p]).length ≤ k + 1; omega, by simp⟩, .weakT (th := [0, 1, 6]) (by simp [Place.row])⟩
        · have := hnl rfl
          subst this
          simp [Try.ntmps4, Try.results4, cSl, cp0, cp1, cp2, cp3, cp4, cp5, cp6, cn0, cI, cD, cF, cA, hk, hk', hw, hge', hkb, hkb', irow, rSlb, slbDec, rBox, Slb.row, Slb.hrow, hoS, hck, ht, slTkE, hvA, hvT, hhv, hno1, rCapQ, rI, irowDec, hf1', wp, hf2', n1, n2, rPlace, placeDec, Place.row]
          exact ⟨(⟨az, aL⟩, [p], false), ⟨⟨by omega, k1, rfl⟩, by simpa using hP2, by simp, by simp⟩, .weakT (th := [0, 1, 5]) (by simp [Place.row])⟩
  · rintro ⟨s, hv, nl⟩ ⟨⟨hk60, hck, hsz⟩, hperm, hvl, hnl⟩
    simp only at hck hsz hperm hvl hnl
    have hoS := okS_of hck
    have hl0 : (slots s.boxes).length = hv.length := hperm.length_eq
    cases nl
    · simp [Try.ntmps4, Try.results4, cSl, cp0, cp1, cp2, cp3, cp4, cp5, cp6, cn0, cI, cD, cF, cA,  rSlb, slbDec, rBox, Slb.row, Slb.hrow, hoS, hck, slMany, hl0, hvA, hvT]
    · have := hnl rfl
      subst this
      simp [Try.ntmps4, Try.results4, cSl, cp0, cp1, cp2, cp3, cp4, cp5, cp6, cn0, cI, cD, cF, cA,  rSlb, slbDec, rBox, Slb.row, Slb.hrow, hoS, hck, slMany, hl0, hvA, hvT]
end Go.Proofs.Ytfiindblaopaiaa
