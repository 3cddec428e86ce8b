/- rmap.Move; ringkeep2.RmapMoves. -/
import Derived.Test.YtigpgieapamffaaRmV
namespace Go.Proofs.Ytigpgieapamffaa
open Go.AI Go.Sort
set_option maxHeartbeats 2000000
set_option maxRecDepth 100000
set_option linter.unusedSimpArgs false
set_option linter.unusedVariables false
attribute [local simp] wpA wpX RunA RunD runF foot footP footB idsA bare apart runL step1 gsel_f gsel_t gsel_s res_same res_and1 res_and2 res_and3 res_and4 res_and5 res_and6 res_false res_true res_v res_ptr res_fptr res_osl res_xsl soft aAppendZ aCap ovlI ovlJ res_fsl res_esl res_agg res_tup res_fn res_junk res_anyb aPick hk imp_left iteV dstOk guardOk astep astepE AI.ev AI.look AI.put envOf aBox cellsOf allOne allOneA oneA Value.oneCell' Value.cells newObj' aFieldAddr aLoad obj readAt thenA blockA condA retA resA tupA view hot hotC hotR depthV cAgg cInt cBool mkAgg allV aAlloc aBuild fillA writeAt aStore isAggA aField idx aIndexAddr aIndex bnd aSlice aExtract aLen aBuiltin aCall isStatic eqAgg eqTy eqC ev_add ev_sub ev_mul ev_quo ev_rem ev_and ev_or ev_xor ev_andNot ev_shl ev_shr ev_eql ev_neq ev_lss ev_leq ev_gtr ev_geq ev_agg w64 wu32 wu8 ev_not ev_neg Cod.plain RCod.plain argM finM cold coldC coldR goInt intDec boolDec aggDec Weaker heapW lowA lowC Again slDec undef aBuildSlice setRows aAppend rowsOf aMakeSlice aClear aCopy softer_self softer_nil valsOf ev_min2 ev_max2 hotR_set hotR_append take_map_set irow_cold irow_mapM irow_mapMc irow_view irow_viewc irow_hotR irow_ren irow_renc irow_low WeakT heapT thOf ren renC AgainT NextF NextT fnDec cFn rNil selfLt natLt0 natLt1 getLastMap frame0 frame1 own0 own1 argG finG tau tauI tauO tauC bareA bareC bareH irow_tau irow_tauc irow_bare irow_flat irow_bareR ownA_nil ownT_nil ownA_c ownT_c ownA_s ownT_s takeMapLen footC plainA noId noIdC cloneF frame0F frame1F insertF replaceI replaceF cellDec rCell fpDec cFp rTwo deleteF allV_oA oneA_oA res_oA RunR RunE runFT footAt hotR_cat tmodN fxSz2 fxBy2 fxAg2 fxZe2 fxSl2 fxAr2 fxPl2 fxSz3 fxBy3 fxAg3 fxZe3 fxSl3 fxAr3 fxPl3 fxSz4 fxBy4 fxAg4 fxZe4 fxSl4 fxAr4 fxPl4 fxSz5 fxBy5 fxAg5 fxZe5 fxSl5 fxAr5 fxPl5 fxSz9 fxBy9 fxAg9 fxZe9 fxSl9 fxAr9 fxPl9 fxSz12 fxBy12 fxAg12 fxZe12 fxSl12 fxAr12 fxPl12 fxSz13 fxBy13 fxAg13 fxZe13 fxSl13 fxAr13 fxFi13x0 fxFi13x1 fxPl13 fxSz21 fxBy21 fxAg21 fxZe21 fxSl21 fxAr21 fxPl21 fxSz22 fxBy22 fxAg22 fxZe22 fxSl22 fxAr22 fxPl22 fxSz23 fxBy23 fxAg23 fxZe23 fxSl23 fxAr23 fxFi23x0 fxFi23x1 fxPl23 fxSz24 fxBy24 fxAg24 fxZe24 fxSl24 fxAr24 fxFi24x0 fxFi24x1 fxPl24 fxSz25 fxBy25 fxAg25 fxZe25 fxSl25 fxAr25 fxPl25 fxSz29 fxBy29 fxAg29 fxZe29 fxSl29 fxAr29 fxFi29x0 fxFi29x1 fxFi29x2 fxPl29 fxSz30 fxBy30 fxAg30 fxZe30 fxSl30 fxAr30 fxFi30x0 fxFi30x1 fxFi30x2 fxPl30 fxSz38 fxBy38 fxAg38 fxZe38 fxSl38 fxAr38 fxPl38 fxSz46 fxBy46 fxAg46 fxZe46 fxSl46 fxAr46 fxPl46 fxSz47 fxBy47 fxAg47 fxZe47 fxSl47 fxAr47 fxFi47x0 fxFi47x1 fxFi47x2 fxPl47 fxSz48 fxBy48 fxAg48 fxZe48 fxSl48 fxAr48 fxFi48x0 fxFi48x1 fxFi48x2 fxPl48 fxSz66 fxBy66 fxAg66 fxZe66 fxSl66 fxAr66 fxPl66 fxSz74 fxBy74 fxAg74 fxZe74 fxSl74 fxAr74 fxPl74 fxSz79 fxBy79 fxAg79 fxZe79 fxSl79 fxAr79 fxPl79 fxSz91 fxBy91 fxAg91 fxZe91 fxSl91 fxAr91 fxPl91 fxSz92 fxBy92 fxAg92 fxZe92 fxSl92 fxAr92 fxPl92 fxSz99 fxBy99 fxAg99 fxZe99 fxSl99 fxAr99 fxPl99 fxSz105 fxBy105 fxAg105 fxZe105 fxSl105 fxAr105 fxPl105 fxSz107 fxBy107 fxAg107 fxZe107 fxSl107 fxAr107 fxPl107 fxSz113 fxBy113 fxAg113 fxZe113 fxSl113 fxAr113 fxPl113 fxSz117 fxBy117 fxAg117 fxZe117 fxSl117 fxAr117 fxPl117 fxSz126 fxBy126 fxAg126 fxZe126 fxSl126 fxAr126 fxPl126 fxSz136 fxBy136 fxAg136 fxZe136 fxSl136 fxAr136 fxPl136 fxSz137 fxBy137 fxAg137 fxZe137 fxSl137 fxAr137 fxFi137x0 fxPl137 fxSz143 fxBy143 fxAg143 fxZe143 fxSl143 fxAr143 fxPl143 fxSz148 fxBy148 fxAg148 fxZe148 fxSl148 fxAr148 fxPl148 fxEq30 fxEq48 fxEq92 fxCv2x2 fxCv2x3 fxCv2x5 fxCv2x12 fxCv2x21 fxCv2x25 fxCv2x79 fxCv2x99 fxCv2x105 fxCv2x107 fxCv2x113 fxCv3x2 fxCv3x3 fxCv3x5 fxCv3x12 fxCv3x21 fxCv3x25 fxCv3x79 fxCv3x99 fxCv3x105 fxCv3x107 fxCv3x113 fxCv5x2 fxCv5x3 fxCv5x5 fxCv5x12 fxCv5x21 fxCv5x25 fxCv5x79 fxCv5x99 fxCv5x105 fxCv5x107 fxCv5x113 fxCv12x2 fxCv12x3 fxCv12x5 fxCv12x12 fxCv12x21 fxCv12x25 fxCv12x79 fxCv12x99 fxCv12x105 fxCv12x107 fxCv12x113 fxCv21x2 fxCv21x3 fxCv21x5 fxCv21x12 fxCv21x21 fxCv21x25 fxCv21x79 fxCv21x99 fxCv21x105 fxCv21x107 fxCv21x113 fxCv25x2 fxCv25x3 fxCv25x5 fxCv25x12 fxCv25x21 fxCv25x25 fxCv25x79 fxCv25x99 fxCv25x105 fxCv25x107 fxCv25x113 fxCv79x2 fxCv79x3 fxCv79x5 fxCv79x12 fxCv79x21 fxCv79x25 fxCv79x79 fxCv79x99 fxCv79x105 fxCv79x107 fxCv79x113 fxCv99x2 fxCv99x3 fxCv99x5 fxCv99x12 fxCv99x21 fxCv99x25 fxCv99x79 fxCv99x99 fxCv99x105 fxCv99x107 fxCv99x113 fxCv105x2 fxCv105x3 fxCv105x5 fxCv105x12 fxCv105x21 fxCv105x25 fxCv105x79 fxCv105x99 fxCv105x105 fxCv105x107 fxCv105x113 fxCv107x2 fxCv107x3 fxCv107x5 fxCv107x12 fxCv107x21 fxCv107x25 fxCv107x79 fxCv107x99 fxCv107x105 fxCv107x107 fxCv107x113 fxCv113x2 fxCv113x3 fxCv113x5 fxCv113x12 fxCv113x21 fxCv113x25 fxCv113x79 fxCv113x99 fxCv113x105 fxCv113x107 fxCv113x113 fxEb4 fxNb4 fxLt9 fxLn22 fxNe22 fxNn22 fxOe22 fxOn22 fxXe22 fxXn22 fxLn38 fxNe38 fxNn38 fxOe38 fxOn38 fxXe38 fxXn38 fxLn46 fxNe46 fxNn46 fxOe46 fxOn46 fxXe46 fxXn46 fxLn74 fxNe74 fxNn74 fxOe74 fxOn74 fxXe74 fxXn74 fxFn3 fxFm3 fxFb3 fxFi3 fxFj3 fxFn4 fxFm4 fxFb4 fxFi4 fxFj4 fxFn5 fxFm5 fxFb5 fxFi5 fxFj5 fxFn6 fxFm6 fxFb6 fxFi6 fxFj6 fxFn7 fxFm7 fxFb7 fxFi7 fxFj7 fxFn8 fxFm8 fxFb8 fxFi8 fxFj8 fxFn9 fxFm9 fxFb9 fxFi9 fxFj9 fxFn10 fxFm10 fxFb10 fxFi10 fxFj10 fxFn11 fxFm11 fxFb11 fxFi11 fxFj11 fxFn12 fxFm12 fxFb12 fxFi12 fxFj12 fxFn13 fxFm13 fxFb13 fxFi13 fxFj13 fxFn14 fxFm14 fxFb14 fxFi14 fxFj14 fxFn15 fxFm15 fxFb15 fxFi15 fxFj15 fxFn16 fxFm16 fxFb16 fxFi16 fxFj16 fxFn17 fxFm17 fxFb17 fxFi17 fxFj17 fxFn18 fxFm18 fxFb18 fxFi18 fxFj18 fxFn19 fxFm19 fxFb19 fxFi19 fxFj19 fxFn20 fxFm20 fxFb20 fxFi20 fxFj20 fxFn21 fxFm21 fxFb21 fxFi21 fxFj21 fxFn22 fxFm22 fxFb22 fxFi22 fxFj22 fxFn23 fxFm23 fxFb23 fxFi23 fxFj23 fxFn24 fxFm24 fxFb24 fxFi24 fxFj24 fxFn25 fxFm25 fxFb25 fxFi25 fxFj25 fxFn26 fxFm26 fxFb26 fxFi26 fxFj26 fxFn27 fxFm27 fxFb27 fxFi27 fxFj27 fxFn28 fxFm28 fxFb28 fxFi28 fxFj28 fxFn29 fxFm29 fxFb29 fxFi29 fxFj29 fxFn30 fxFm30 fxFb30 fxFi30 fxFj30 fxFn31 fxFm31 fxFb31 fxFi31 fxFj31 fxFn32 fxFm32 fxFb32 fxFi32 fxFj32 fxFn33 fxFm33 fxFb33 fxFi33 fxFj33 fxFn34 fxFm34 fxFb34 fxFi34 fxFj34 fxFn35 fxFm35 fxFb35 fxFi35 fxFj35 fxFn36 fxFm36 fxFb36 fxFi36 fxFj36 fxFn37 fxFm37 fxFb37 fxFi37 fxFj37 fxFn38 fxFm38 fxFb38 fxFi38 fxFj38 fxFn39 fxFm39 fxFb39 fxFi39 fxFj39 fxFn40 fxFm40 fxFb40 fxFi40 fxFj40 fxFn41 fxFm41 fxFb41 fxFi41 fxFj41 fxFn42 fxFm42 fxFb42 fxFi42 fxFj42 fxFn43 fxFm43 fxFb43 fxFi43 fxFj43 fxFn44 fxFm44 fxFb44 fxFi44 fxFj44 fxFn45 fxFm45 fxFb45 fxFi45 fxFj45 fxFn46 fxFm46 fxFb46 fxFi46 fxFj46 fxFn47 fxFm47 fxFb47 fxFi47 fxFj47 fxFn48 fxFm48 fxFb48 fxFi48 fxFj48 fxFn49 fxFm49 fxFb49 fxFi49 fxFj49 fxFn50 fxFm50 fxFb50 fxFi50 fxFj50 fxFn51 fxFm51 fxFb51 fxFi51 fxFj51 fxFn52 fxFm52 fxFb52 fxFi52 fxFj52 fxFn53 fxFm53 fxFb53 fxFi53 fxFj53 fxFn54 fxFm54 fxFb54 fxFi54 fxFj54 fxFn55 fxFm55 fxFb55 fxFi55 fxFj55 fxFn56 fxFm56 fxFb56 fxFi56 fxFj56 fxFn57 fxFm57 fxFb57 fxFi57 fxFj57 fxFn58 fxFm58 fxFb58 fxFi58 fxFj58 fxFn59 fxFm59 fxFb59 fxFi59 fxFj59 fxFn60 fxFm60 fxFb60 fxFi60 fxFj60 fxFn61 fxFm61 fxFb61 fxFi61 fxFj61 fxFn62 fxFm62 fxFb62 fxFi62 fxFj62 fxFn63 fxFm63 fxFb63 fxFi63 fxFj63 fxFn64 fxFm64 fxFb64 fxFi64 fxFj64 fxFn65 fxFm65 fxFb65 fxFi65 fxFj65 fxFn66 fxFm66 fxFb66 fxFi66 fxFj66 fxFn67 fxFm67 fxFb67 fxFi67 fxFj67 fxFn68 fxFm68 fxFb68 fxFi68 fxFj68 fxFn69 fxFm69 fxFb69 fxFi69 fxFj69 fxFn70 fxFm70 fxFn71 fxFm71 fxFb71 fxFi71 fxFj71 fxFn72 fxFm72 fxFb72 fxFi72 fxFj72 fxFn73 fxFm73 fxFb73 fxFi73 fxFj73 fxFn74 fxFm74 fxFb74 fxFi74 fxFj74 fxFn75 fxFm75 fxFb75 fxFi75 fxFj75 fxFn76 fxFm76 fxFb76 fxFi76 fxFj76 fxFn77 fxFm77 fxFb77 fxFi77 fxFj77 fxFn78 fxFm78 fxFb78 fxFi78 fxFj78 fxFn79 fxFm79 fxFb79 fxFi79 fxFj79 fxFn80 fxFm80 fxFb80 fxFi80 fxFj80 fxFn81 fxFm81 fxFb81 fxFi81 fxFj81 fxFn82 fxFm82 fxFb82 fxFi82 fxFj82 fxFn83 fxFm83 fxFb83 fxFi83 fxFj83 fxFn84 fxFm84 fxFb84 fxFi84 fxFj84 fxFn85 fxFm85 fxFb85 fxFi85 fxFj85 fxFn86 fxFm86 fxFb86 fxFi86 fxFj86 fxFn87 fxFm87 fxFb87 fxFi87 fxFj87 fxFn88 fxFm88 fxFb88 fxFi88 fxFj88 fxFn89 fxFm89 fxFn90 fxFm90 fxFb90 fxFi90 fxFj90 fxFn91 fxFm91 fxFb91 fxFi91 fxFj91 fxFn92 fxFm92 fxFb92 fxFi92 fxFj92 fxFn93 fxFm93 fxFb93 fxFi93 fxFj93 fxFn94 fxFm94 fxFb94 fxFi94 fxFj94 fxFn95 fxFm95 fxFb95 fxFi95 fxFj95 fxFn96 fxFm96 fxFb96 fxFi96 fxFj96 fxFn97 fxFm97 fxFb97 fxFi97 fxFj97 fxFn98 fxFm98 fxFb98 fxFi98 fxFj98 fxFn99 fxFm99 fxFb99 fxFi99 fxFj99 fxFn100 fxFm100 fxFb100 fxFi100 fxFj100 fxFn101 fxFm101 fxFb101 fxFi101 fxFj101 fxFn102 fxFm102 fxFb102 fxFi102 fxFj102 fxFn103 fxFm103 fxFb103 fxFi103 fxFj103 fxFn104 fxFm104 fxFb104 fxFi104 fxFj104 fxFn105 fxFm105 fxFb105 fxFi105 fxFj105 fxFn106 fxFm106 fxFb106 fxFi106 fxFj106 fxFn107 fxFm107 fxFb107 fxFi107 fxFj107 fxFn108 fxFm108 fxFb108 fxFi108 fxFj108 fxFn109 fxFm109 fxFb109 fxFi109 fxFj109 fxFn110 fxFm110 fxFb110 fxFi110 fxFj110 fxFn111 fxFm111 fxFb111 fxFi111 fxFj111 fxFn112 fxFm112 fxFb112 fxFi112 fxFj112 fxFn113 fxFm113 fxFb113 fxFi113 fxFj113 fxFn114 fxFm114 fxFb114 fxFi114 fxFj114
attribute [local simp] Pr.eta Pr.cold Pr.mapM Pr.mapMc Pr.view Pr.viewc Pr.hotR Pr.ren Pr.renc Pr.low Pr.tau Pr.tauc Pr.bare Pr.flat Pr.flat1 Pr.mapMt Pr.mapMd Pr.coldt Pr.coldd Pr.hotRt Pr.hotRd
def encP (p : Pr) : List Value := [.int .i64 p.frame, .int .i64 p.space, .int .i64 p.page]
theorem encP_row : (fun e => List.map AVal.v (encP e)) = Pr.row := rfl
theorem encP_len (x : Pr) : (encP x).length = 3 := rfl
theorem encP_one (x : Pr) : ∀ v ∈ encP x, v.oneCell' = true := by
  intro v hv
  simp only [encP, List.mem_cons, List.mem_nil_iff, or_false] at hv
  rcases hv with rfl | rfl | rfl <;> rfl
theorem prDec_enc (r : Row) (e : Pr) (h : prDec r = some e) : r = (encP e).map .v := by
  unfold prDec at h
  split at h
  · simp at h; subst h; rfl
  · cases h
theorem ordSort : InlOk Try.prog 68 (sortI 3 60 encP prDec ordP) :=
  sort_inl (by decide) encP_len encP_one prDec_enc order_pure (fun x y => rfl) ordP_swo
    ⟨⟨_, _, Try.func68, rfl⟩,
     fun blk off cap d w hcmp hH hblk hsz => AnyQ.slices_SortFunc_eq Go.Proofs.Ytigpgieapamffaa.layF 3 Try.isAgg48 Try.sizeOf48 encP encP_len encP_one ordP ordP_swo 60 #[] blk off cap d w (enters_of Try.func60 (by kernel_rfl) rfl) hcmp hH hblk hsz,
     fun p cap fv w => AnyF.slices_SortFunc_none Go.Proofs.Ytigpgieapamffaa.layF p cap fv w⟩
def moveE (l : List Pr) (f t : Int) : AVal :=
  if rmChk l ⟨f, 1, 0⟩ = 0 then
    if rmChk l ⟨t, 1, 0⟩ = 0 then
      (if l = [] then .tup [.esl, .v (.int .i64 0), .v (.int .i64 0)] else .tup [.fsl true 3 ((mvL l f t).map Pr.row), .v (.int .i64 (cntP f l)), .v (.int .i64 0)])
    else .v (.tuple #[.slice none 0 0, .int .i64 0, .int .i64 (rmChk l ⟨t, 1, 0⟩)])
  else .v (.tuple #[.slice none 0 0, .int .i64 0, .int .i64 (rmChk l ⟨f, 1, 0⟩)])
theorem cnt_next {l : List Pr} {f : Int} {k : Nat} (hk : k < l.length) : cntP f (l.take (k + 1)) = cntP f (l.take k) + (if (l[k]).frame = f then 1 else 0) := by
  unfold cntP
  rw [List.take_succ_eq_append_getElem hk, List.filter_append, List.length_append]
  congr 1
  by_cases h : (l[k]).frame = f <;> simp [h]
theorem cnt_le (l : List Pr) (f : Int) : cntP f l ≤ l.length := List.length_filter_le _ _
def mvK (l : List Pr) (f t : Int) (k : Nat) : List Pr := (l.take k).map (mvP f t) ++ l.drop k
theorem mvK_len {l : List Pr} {f t : Int} {k : Nat} (hk : k ≤ l.length) : (mvK l f t k).length = l.length := by
  unfold mvK; simp; omega
theorem mvK_get {l : List Pr} {f t : Int} {k : Nat} (hk : k < l.length) : (mvK l f t k)[k]? = some l[k] := by
  unfold mvK
  rw [List.getElem?_append_right (by simp; omega)]
  simp [Nat.min_eq_left (Nat.le_of_lt hk), hk]
theorem mvK_next {l : List Pr} {f t : Int} {k : Nat} (hk : k < l.length) : mvK l f t (k + 1) = (mvK l f t k).set k (mvP f t l[k]) := by
  unfold mvK
  rw [List.take_succ_eq_append_getElem hk, List.map_append, List.drop_eq_getElem_cons hk, List.append_assoc, List.set_append, if_neg (by simp; omega)]
  have : k - ((l.take k).map (mvP f t)).length = 0 := by simp; omega
  rw [this]; rfl
theorem move_pure : PureOk Try.prog 36 (argM (cSl rPr) fun l => argM (cInt .i64) fun f => argM (cInt .i64) fun t => finM (some (moveE l f t))) := by
  refine pure3 Try.func36 rfl ?_
  rintro l f t r hr
  simp only [Option.some.injEq] at hr
  subst hr
  refine body_gen (((noOrc_ok.withP rmChk_pure).withI prClone).withI ordSort) fxMix (by kernel_rfl) (by simp [Try.ntmps36]) ?_
  intro C cP cI cN cD cF cA
  have cp0 := orcP rmChk_pure (C := C) (by rw [cP]; rfl)
  have cn0 := orcI prClone (C := C) (by rw [cN]; rfl)
  have cn1 := orcI ordSort (C := C) (by rw [cN]; rfl)
  replace cI := fun g => congrFun cI g
  simp only [Orc.withP, Orc.withI, Orc.withF, Orc.withD, Orc.withA, noOrc] at cI
  replace cD : C.dyn = fun _ => [] := cD
  clear cP cN cF cA
  unfold moveE
  by_cases h0 : rmChk l ⟨f, 1, 0⟩ = 0
  · by_cases h1 : rmChk l ⟨t, 1, 0⟩ = 0
    · have g := (rmChk_iff.1 h0).1
      have hl := g.len
      have hl2 : l.length ≤ 4294967296 := by omega
      have hl3 : l.length ≤ 1048576 := by omega
      by_cases hn : l = []
      · subst hn
        simp [Try.ntmps36, Try.results36, cSl, cp0, cn0, cn1, cI, cD, rPr, Pr.row, prDec, h0, h1, cloneI, sortI]
        refine loop_rounds 1 ?_
        simp [Try.ntmps36, Try.results36, cSl, cp0, cn0, cn1, cI, cD, UnrK, sortI]
        try done
      · have hpos : 0 < l.length := List.length_pos_iff.2 hn
        have hpn : ¬ l.length = 0 := by omega
        have hml := mvL_len l f t
        have hms : sortL ordP (l.map (mvP f t)) = mvL l f t := rfl
        generalize hM : mvL l f t = M at *
        have hMl : M.length ≤ l.length := by omega
        simp [Try.ntmps36, Try.results36, cSl, cp0, cn0, cn1, cI, cD, rPr, Pr.row, prDec, h0, h1, hl2, cloneI, hn]
        refine loop_for l.length (fun k (_ : Unit) => ([(1, .v (.int .i64 f)), (2, .v (.int .i64 t)), (10, .osl 0 3 0 l.length l.length), (11, .v (.int .i64 (cntP f (l.take k)))), (29, .osl 0 3 0 l.length l.length), (30, .v (.int .i64 l.length)), (31, .v (.int .i64 k))], [some (3, (mvK l f t k).map Pr.row)])) (fun k _ => True) () (by omega) trivial (by simp [cntP, mvK]) ?_ ?_
        · intro k _ hk _ hw
          have h1k := mvK_len (f := f) (t := t) (Nat.le_of_lt hk)
          have h2k := mvK_get (f := f) (t := t) hk
          have h3k := mvK_next (f := f) (t := t) hk
          have h4k := cnt_next (f := f) hk
          have h5k := cnt_le (l.take k) f
          have hkt : (l.take k).length = k := by simp; omega
          rw [hkt] at h5k
          have hwc : IntKind.i64.wrap ((cntP f (l.take k) : Int) + 1) = (cntP f (l.take k) : Int) + 1 := w64 (by omega) (by omega)
          generalize mvK l f t k = M1 at *
          generalize cntP f (l.take k) = cn at *
          have hk1 : k < M1.length := by omega
          have hg : M1[k] = l[k] := by rw [List.getElem?_eq_getElem hk1, Option.some.injEq] at h2k; exact h2k
          by_cases hf : (l[k]).frame = f
          · rw [if_pos hf] at h4k
            have hr : (mvK l f t (k + 1)).map Pr.row = (M1.map Pr.row).set k [.v (.int .i64 t), .v (.int .i64 l[k].space), .v (.int .i64 l[k].page)] := by
              rw [h3k, List.map_set]; unfold mvP; rw [if_pos hf]; rfl
            simp [Try.ntmps36, Try.results36, cSl, cp0, cn0, cn1, cI, cD, rPr, hk, hw, hk1, h1k, h2k, hg, Pr.row, hf, hwc, h4k, hr]
            rw [← hr]
            simp [Pr.row, lowA]
          · rw [if_neg hf, Nat.add_zero] at h4k
            have hr : mvK l f t (k + 1) = M1 := by
              rw [h3k]; unfold mvP; rw [if_neg hf, ← hg]; exact List.set_getElem_self hk1
            simp [Try.ntmps36, Try.results36, cSl, cp0, cn0, cn1, cI, cD, rPr, hk, hw, hk1, h1k, h2k, hg, Pr.row, hf, h4k, hr]
            try done
        · intro _ _
          have e1 : mvK l f t l.length = l.map (mvP f t) := by unfold mvK; simp
          have m1 : (((l.map (mvP f t)).map Pr.row).take l.length).mapM prDec = some (l.map (mvP f t)) := by
            rw [List.take_of_length_le (by simp)]
            exact mapM_dec rPr _
          have d1 : ((l.map (mvP f t)).map Pr.row).drop l.length = [] := List.drop_eq_nil_of_le (by simp)
          rw [e1]
          have hr : ∀ X : List Pr, X.map (fun e => List.map AVal.v (encP e)) = X.map Pr.row := fun X => rfl
          have hL1 : l.length ≤ (l.map (mvP f t)).length := by simp
          generalize l.map (mvP f t) = L1 at *
          have hMl2 : l.length ≤ M.length := by omega
          have hMt : List.take l.length (M.map Pr.row) = M.map Pr.row := List.take_of_length_le (by simp; omega)
          simp [Try.ntmps36, Try.results36, cSl, cp0, cn0, cn1, cI, cD, rPr, sortI, hl3, hpn, m1, d1, hms, hr, hL1, hMl2, hMt]
          try done
    · simp [Try.ntmps36, Try.results36, cSl, cp0, cn0, cn1, cI, cD, rPr, Pr.row, prDec, h0, h1]
  · simp [Try.ntmps36, Try.results36, cSl, cp0, cn0, cn1, cI, cD, rPr, Pr.row, prDec, h0]
theorem moves_len {l : List Pr} {f t : Int} : (mvL l f t).length = l.length := mvL_len l f t
theorem moves_pure : PureOk Try.prog 14 (argM (cSl rPr) fun l => argM (cInt .i64) fun f => argM (cInt .i64) fun t => argM (cInt .i64) fun s => argM (cInt .i64) fun q => finM (some (.v (.bool true)))) := by
  refine pure5 Try.func14 rfl ?_
  rintro l f t s q r hr
  simp only [Option.some.injEq] at hr
  subst hr
  refine body_gen ((((((noOrc_ok.withP move_pure).withP rmaps_pure).withP rmWho_pure).withP rmWhere_pure).withP good_pure).withP rmCheck_pure) fxMix (by kernel_rfl) (by simp [Try.ntmps14]) ?_
  intro C cP cI cN cD cF cA
  have cp0 := orcP move_pure (C := C) (by rw [cP]; rfl)
  have cp1 := orcP rmaps_pure (C := C) (by rw [cP]; rfl)
  have cp2 := orcP rmWho_pure (C := C) (by rw [cP]; rfl)
  have cp3 := orcP rmWhere_pure (C := C) (by rw [cP]; rfl)
  have cp4 := orcP good_pure (C := C) (by rw [cP]; rfl)
  have cp5 := orcP rmCheck_pure (C := C) (by rw [cP]; rfl)
  replace cI : C.inl = fun _ => false := cI
  replace cD : C.dyn = fun _ => [] := cD
  clear cP cN cF cA
  by_cases h0 : rmChk l ⟨f, 1, 0⟩ = 0
  · by_cases h1 : rmChk l ⟨t, 1, 0⟩ = 0
    · have g := (rmChk_iff.1 h0).1
      have hpf := (Pr.right_iff.1 (rmChk_iff.1 h0).2)
      have hpt := (Pr.right_iff.1 (rmChk_iff.1 h1).2)
      simp only at hpf hpt
      have hl := g.len
      have hl2 : l.length ≤ 4294967296 := by omega
      have g2 := good_mv (f := f) (t := t) g (by omega)
      have c2 : rmCheck (mvL l f t) = 0 := rmCheck_iff.2 g2
      have c3 : rmChk (mvL l f t) ⟨f, 1, 0⟩ = 0 := rmChk_iff.2 ⟨g2, (rmChk_iff.1 h0).2⟩
      have hml := mvL_len l f t
      have e1 : rmWho l f = .ok (l.filter (fun x => !(x.frame != f))) := by unfold rmWho; rw [if_pos h0]
      have e2 : rmWho (mvL l f t) f = .ok ((mvL l f t).filter (fun x => !(x.frame != f))) := by unfold rmWho; rw [if_pos c3]
      have hfl := List.length_filter_le (fun x : Pr => !(x.frame != f)) l
      have hfl2 := List.length_filter_le (fun x : Pr => !(x.frame != f)) (mvL l f t)
      obtain ⟨w2, w1⟩ := mv_where (f := f) (t := t) (s := s) (q := q) g (by omega) (by omega)
      have hnn := mv_none (l := l) (f := f) (t := t)
      have hcn : cntP f l = (l.filter (fun x : Pr => !(x.frame != f))).length := rfl
      by_cases hn : l = []
      · subst hn
        have hm0 : mvL [] f t = [] := List.length_eq_zero_iff.1 hml
        rw [hm0] at c2 e2 w1 w2
        have hz : cntP f [] = 0 := rfl
        have hb : ¬ ((rmWhere [] s q).1 = f ∧ (rmWhere [] s q).2 = 0) := by
          unfold rmWhere
          split
          · rw [if_pos (show rmFind [] s q < 0 from by rw [show rmFind [] s q = -1 from rfl]; omega)]; simp; omega
          · rename_i hq; simp [hq]
        generalize hW : rmWhere [] s q = W at *
        obtain ⟨Wa, We⟩ := W
        simp only at hb
        simp [Try.ntmps14, Try.results14, cSl, cp0, cp1, cp2, cp3, cp4, cp5, cI, cD, rPr, Pr.row, prDec, moveE, h0, h1, e1, e2, whoE, slE, c2, hW, hz, rI, irow, irowDec]
        try omega
      · have hmn : ¬ mvL l f t = [] := by intro h; rw [h] at hml; exact hn (List.length_eq_zero_iff.1 hml.symm)
        generalize hF : l.filter (fun x => !(x.frame != f)) = F at *
        generalize hF2 : (mvL l f t).filter (fun x => !(x.frame != f)) = F2 at *
        generalize hW : rmWhere l s q = W at *
        generalize hW2 : rmWhere (mvL l f t) s q = W2 at *
        obtain ⟨Wa, We⟩ := W
        obtain ⟨W2a, W2e⟩ := W2
        simp only at w1 w2
        subst w2
        have hM2 : (mvL l f t).length ≤ 4294967296 := by omega
        simp [Try.ntmps14, Try.results14, cSl, cp0, cp1, cp2, cp3, cp4, cp5, cI, cD, rPr, Pr.row, prDec, moveE, h0, h1, hn, hmn, e1, e2, whoE, slE, c2, hW, hW2, hcn, rI, irow, irowDec, hml, hM2, hl2]
        refine ⟨fun h => hnn h, ?_⟩
        split <;> simp_all
    · simp [Try.ntmps14, Try.results14, cSl, cp0, cp1, cp2, cp3, cp4, cp5, cI, cD, rPr, Pr.row, prDec, moveE, h0, h1]
  · simp [Try.ntmps14, Try.results14, cSl, cp0, cp1, cp2, cp3, cp4, cp5, cI, cD, rPr, Pr.row, prDec, moveE, h0]
end Go.Proofs.Ytigpgieapamffaa
