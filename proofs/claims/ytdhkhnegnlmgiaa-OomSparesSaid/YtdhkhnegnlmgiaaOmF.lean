/- ringkeep2: OomFrees, OomSpares. -/
import Derived.Test.YtdhkhnegnlmgiaaOmE
import Derived.Test.YtdhkhnegnlmgiaaSlI
namespace Go.Proofs.Ytdhkhnegnlmgiaa
open Go.AI Go.Sort
set_option maxHeartbeats 2000000
set_option maxRecDepth 100000
set_option linter.unusedSimpArgs false
set_option linter.unusedVariables false
attribute [local simp] wpA wpX RunA RunD runF foot footP footB idsA bare apart runL step1 gsel_f gsel_t gsel_s res_same res_and1 res_and2 res_and3 res_and4 res_and5 res_and6 res_false res_true res_v res_ptr res_fptr res_osl res_xsl soft aAppendZ aCap ovlI ovlJ res_fsl res_esl res_agg res_tup res_fn res_junk res_anyb aPick hk imp_left iteV dstOk guardOk astep astepE AI.ev AI.look AI.put envOf aBox cellsOf allOne allOneA oneA Value.oneCell' Value.cells newObj' aFieldAddr aLoad obj readAt thenA blockA condA retA resA tupA view hot hotC hotR depthV cAgg cInt cBool mkAgg allV aAlloc aBuild fillA writeAt aStore isAggA aField idx aIndexAddr aIndex bnd aSlice aExtract aLen aBuiltin aCall isStatic eqAgg eqTy eqC ev_add ev_sub ev_mul ev_quo ev_rem ev_and ev_or ev_xor ev_andNot ev_shl ev_shr ev_eql ev_neq ev_lss ev_leq ev_gtr ev_geq ev_agg w64 wu32 wu8 ev_not ev_neg Cod.plain RCod.plain argM finM cold coldC coldR goInt intDec boolDec aggDec Weaker heapW lowA lowC Again slDec undef aBuildSlice setRows aAppend rowsOf aMakeSlice aClear aCopy softer_self softer_nil valsOf ev_min2 ev_max2 hotR_set hotR_append take_map_set irow_cold irow_mapM irow_mapMc irow_view irow_viewc irow_hotR irow_ren irow_renc irow_low WeakT heapT thOf ren renC AgainT NextF NextT fnDec cFn rNil selfLt natLt0 natLt1 getLastMap frame0 frame1 own0 own1 argG finG tau tauI tauO tauC bareA bareC bareH irow_tau irow_tauc irow_bare irow_flat irow_bareR ownA_nil ownT_nil ownA_c ownT_c ownA_s ownT_s takeMapLen footC plainA noId noIdC cloneF frame0F frame1F insertF replaceI replaceF cellDec rCell fpDec cFp rTwo deleteF allV_oA oneA_oA res_oA RunR RunE runFT footAt hotR_cat tmodN fxSz2 fxBy2 fxAg2 fxZe2 fxSl2 fxAr2 fxPl2 fxSz3 fxBy3 fxAg3 fxZe3 fxSl3 fxAr3 fxPl3 fxSz4 fxBy4 fxAg4 fxZe4 fxSl4 fxAr4 fxPl4 fxSz5 fxBy5 fxAg5 fxZe5 fxSl5 fxAr5 fxPl5 fxSz9 fxBy9 fxAg9 fxZe9 fxSl9 fxAr9 fxPl9 fxSz12 fxBy12 fxAg12 fxZe12 fxSl12 fxAr12 fxPl12 fxSz13 fxBy13 fxAg13 fxZe13 fxSl13 fxAr13 fxFi13x0 fxFi13x1 fxPl13 fxSz21 fxBy21 fxAg21 fxZe21 fxSl21 fxAr21 fxPl21 fxSz22 fxBy22 fxAg22 fxZe22 fxSl22 fxAr22 fxPl22 fxSz23 fxBy23 fxAg23 fxZe23 fxSl23 fxAr23 fxFi23x0 fxFi23x1 fxPl23 fxSz24 fxBy24 fxAg24 fxZe24 fxSl24 fxAr24 fxFi24x0 fxFi24x1 fxPl24 fxSz26 fxBy26 fxAg26 fxZe26 fxSl26 fxAr26 fxPl26 fxSz28 fxBy28 fxAg28 fxZe28 fxSl28 fxAr28 fxPl28 fxSz29 fxBy29 fxAg29 fxZe29 fxSl29 fxAr29 fxFi29x0 fxFi29x1 fxFi29x2 fxFi29x3 fxFi29x4 fxPl29 fxSz30 fxBy30 fxAg30 fxZe30 fxSl30 fxAr30 fxFi30x0 fxFi30x1 fxFi30x2 fxFi30x3 fxFi30x4 fxPl30 fxSz48 fxBy48 fxAg48 fxZe48 fxSl48 fxAr48 fxPl48 fxSz49 fxBy49 fxAg49 fxZe49 fxSl49 fxAr49 fxPl49 fxSz53 fxBy53 fxAg53 fxZe53 fxSl53 fxAr53 fxFi53x0 fxFi53x1 fxFi53x2 fxFi53x3 fxPl53 fxSz54 fxBy54 fxAg54 fxZe54 fxSl54 fxAr54 fxFi54x0 fxFi54x1 fxFi54x2 fxFi54x3 fxPl54 fxSz59 fxBy59 fxAg59 fxZe59 fxSl59 fxAr59 fxPl59 fxSz63 fxBy63 fxAg63 fxZe63 fxSl63 fxAr63 fxPl63 fxSz68 fxBy68 fxAg68 fxZe68 fxSl68 fxAr68 fxPl68 fxSz75 fxBy75 fxAg75 fxZe75 fxSl75 fxAr75 fxPl75 fxSz90 fxBy90 fxAg90 fxZe90 fxSl90 fxAr90 fxFi90x0 fxFi90x1 fxFi90x2 fxPl90 fxSz91 fxBy91 fxAg91 fxZe91 fxSl91 fxAr91 fxFi91x0 fxFi91x1 fxFi91x2 fxPl91 fxSz96 fxBy96 fxAg96 fxZe96 fxSl96 fxAr96 fxPl96 fxSz108 fxBy108 fxAg108 fxZe108 fxSl108 fxAr108 fxPl108 fxSz115 fxBy115 fxAg115 fxZe115 fxSl115 fxAr115 fxPl115 fxSz117 fxBy117 fxAg117 fxZe117 fxSl117 fxAr117 fxPl117 fxSz124 fxBy124 fxAg124 fxZe124 fxSl124 fxAr124 fxPl124 fxSz128 fxBy128 fxAg128 fxZe128 fxSl128 fxAr128 fxPl128 fxSz133 fxBy133 fxAg133 fxZe133 fxSl133 fxAr133 fxPl133 fxSz140 fxBy140 fxAg140 fxZe140 fxSl140 fxAr140 fxPl140 fxSz141 fxBy141 fxAg141 fxZe141 fxSl141 fxAr141 fxFi141x0 fxPl141 fxSz147 fxBy147 fxAg147 fxZe147 fxSl147 fxAr147 fxPl147 fxSz152 fxBy152 fxAg152 fxZe152 fxSl152 fxAr152 fxPl152 fxEq28 fxEq30 fxEq54 fxEq91 fxCv2x2 fxCv2x3 fxCv2x5 fxCv2x12 fxCv2x21 fxCv2x26 fxCv2x96 fxCv2x108 fxCv2x115 fxCv2x117 fxCv2x124 fxCv3x2 fxCv3x3 fxCv3x5 fxCv3x12 fxCv3x21 fxCv3x26 fxCv3x96 fxCv3x108 fxCv3x115 fxCv3x117 fxCv3x124 fxCv5x2 fxCv5x3 fxCv5x5 fxCv5x12 fxCv5x21 fxCv5x26 fxCv5x96 fxCv5x108 fxCv5x115 fxCv5x117 fxCv5x124 fxCv12x2 fxCv12x3 fxCv12x5 fxCv12x12 fxCv12x21 fxCv12x26 fxCv12x96 fxCv12x108 fxCv12x115 fxCv12x117 fxCv12x124 fxCv21x2 fxCv21x3 fxCv21x5 fxCv21x12 fxCv21x21 fxCv21x26 fxCv21x96 fxCv21x108 fxCv21x115 fxCv21x117 fxCv21x124 fxCv26x2 fxCv26x3 fxCv26x5 fxCv26x12 fxCv26x21 fxCv26x26 fxCv26x96 fxCv26x108 fxCv26x115 fxCv26x117 fxCv26x124 fxCv96x2 fxCv96x3 fxCv96x5 fxCv96x12 fxCv96x21 fxCv96x26 fxCv96x96 fxCv96x108 fxCv96x115 fxCv96x117 fxCv96x124 fxCv108x2 fxCv108x3 fxCv108x5 fxCv108x12 fxCv108x21 fxCv108x26 fxCv108x96 fxCv108x108 fxCv108x115 fxCv108x117 fxCv108x124 fxCv115x2 fxCv115x3 fxCv115x5 fxCv115x12 fxCv115x21 fxCv115x26 fxCv115x96 fxCv115x108 fxCv115x115 fxCv115x117 fxCv115x124 fxCv117x2 fxCv117x3 fxCv117x5 fxCv117x12 fxCv117x21 fxCv117x26 fxCv117x96 fxCv117x108 fxCv117x115 fxCv117x117 fxCv117x124 fxCv124x2 fxCv124x3 fxCv124x5 fxCv124x12 fxCv124x21 fxCv124x26 fxCv124x96 fxCv124x108 fxCv124x115 fxCv124x117 fxCv124x124 fxEb4 fxNb4 fxLt9 fxLn22 fxNe22 fxNn22 fxOe22 fxOn22 fxXe22 fxXn22 fxLn48 fxNe48 fxNn48 fxOe48 fxOn48 fxXe48 fxXn48 fxLn49 fxNe49 fxNn49 fxOe49 fxOn49 fxXe49 fxXn49 fxLn59 fxNe59 fxNn59 fxOe59 fxOn59 fxXe59 fxXn59 fxLn63 fxNe63 fxNn63 fxOe63 fxOn63 fxXe63 fxXn63 fxLn75 fxNe75 fxNn75 fxOe75 fxOn75 fxXe75 fxXn75 fxFn3 fxFm3 fxFb3 fxFi3 fxFj3 fxFn4 fxFm4 fxFb4 fxFi4 fxFj4 fxFn5 fxFm5 fxFb5 fxFi5 fxFj5 fxFn6 fxFm6 fxFb6 fxFi6 fxFj6 fxFn7 fxFm7 fxFb7 fxFi7 fxFj7 fxFn8 fxFm8 fxFb8 fxFi8 fxFj8 fxFn9 fxFm9 fxFb9 fxFi9 fxFj9 fxFn10 fxFm10 fxFb10 fxFi10 fxFj10 fxFn11 fxFm11 fxFb11 fxFi11 fxFj11 fxFn12 fxFm12 fxFb12 fxFi12 fxFj12 fxFn13 fxFm13 fxFb13 fxFi13 fxFj13 fxFn14 fxFm14 fxFb14 fxFi14 fxFj14 fxFn15 fxFm15 fxFb15 fxFi15 fxFj15 fxFn16 fxFm16 fxFb16 fxFi16 fxFj16 fxFn17 fxFm17 fxFb17 fxFi17 fxFj17 fxFn18 fxFm18 fxFb18 fxFi18 fxFj18 fxFn19 fxFm19 fxFb19 fxFi19 fxFj19 fxFn20 fxFm20 fxFb20 fxFi20 fxFj20 fxFn21 fxFm21 fxFb21 fxFi21 fxFj21 fxFn22 fxFm22 fxFb22 fxFi22 fxFj22 fxFn23 fxFm23 fxFb23 fxFi23 fxFj23 fxFn24 fxFm24 fxFb24 fxFi24 fxFj24 fxFn25 fxFm25 fxFb25 fxFi25 fxFj25 fxFn26 fxFm26 fxFb26 fxFi26 fxFj26 fxFn27 fxFm27 fxFb27 fxFi27 fxFj27 fxFn28 fxFm28 fxFb28 fxFi28 fxFj28 fxFn29 fxFm29 fxFb29 fxFi29 fxFj29 fxFn30 fxFm30 fxFb30 fxFi30 fxFj30 fxFn31 fxFm31 fxFb31 fxFi31 fxFj31 fxFn32 fxFm32 fxFb32 fxFi32 fxFj32 fxFn33 fxFm33 fxFb33 fxFi33 fxFj33 fxFn34 fxFm34 fxFb34 fxFi34 fxFj34 fxFn35 fxFm35 fxFb35 fxFi35 fxFj35 fxFn36 fxFm36 fxFb36 fxFi36 fxFj36 fxFn37 fxFm37 fxFb37 fxFi37 fxFj37 fxFn38 fxFm38 fxFb38 fxFi38 fxFj38 fxFn39 fxFm39 fxFb39 fxFi39 fxFj39 fxFn40 fxFm40 fxFb40 fxFi40 fxFj40 fxFn41 fxFm41 fxFb41 fxFi41 fxFj41 fxFn42 fxFm42 fxFb42 fxFi42 fxFj42 fxFn43 fxFm43 fxFb43 fxFi43 fxFj43 fxFn44 fxFm44 fxFb44 fxFi44 fxFj44 fxFn45 fxFm45 fxFb45 fxFi45 fxFj45 fxFn46 fxFm46 fxFb46 fxFi46 fxFj46 fxFn47 fxFm47 fxFb47 fxFi47 fxFj47 fxFn48 fxFm48 fxFb48 fxFi48 fxFj48 fxFn49 fxFm49 fxFb49 fxFi49 fxFj49 fxFn50 fxFm50 fxFb50 fxFi50 fxFj50 fxFn51 fxFm51 fxFb51 fxFi51 fxFj51 fxFn52 fxFm52 fxFb52 fxFi52 fxFj52 fxFn53 fxFm53 fxFb53 fxFi53 fxFj53 fxFn54 fxFm54 fxFb54 fxFi54 fxFj54 fxFn55 fxFm55 fxFb55 fxFi55 fxFj55 fxFn56 fxFm56 fxFb56 fxFi56 fxFj56 fxFn57 fxFm57 fxFb57 fxFi57 fxFj57 fxFn58 fxFm58 fxFb58 fxFi58 fxFj58 fxFn59 fxFm59 fxFb59 fxFi59 fxFj59 fxFn60 fxFm60 fxFn61 fxFm61 fxFb61 fxFi61 fxFj61 fxFn62 fxFm62 fxFb62 fxFi62 fxFj62 fxFn63 fxFm63 fxFb63 fxFi63 fxFj63 fxFn64 fxFm64 fxFb64 fxFi64 fxFj64 fxFn65 fxFm65 fxFb65 fxFi65 fxFj65 fxFn66 fxFm66 fxFb66 fxFi66 fxFj66 fxFn67 fxFm67 fxFb67 fxFi67 fxFj67 fxFn68 fxFm68 fxFb68 fxFi68 fxFj68 fxFn69 fxFm69 fxFb69 fxFi69 fxFj69 fxFn70 fxFm70 fxFb70 fxFi70 fxFj70 fxFn71 fxFm71 fxFb71 fxFi71 fxFj71 fxFn72 fxFm72 fxFb72 fxFi72 fxFj72 fxFn73 fxFm73 fxFb73 fxFi73 fxFj73 fxFn74 fxFm74 fxFb74 fxFi74 fxFj74 fxFn75 fxFm75 fxFb75 fxFi75 fxFj75 fxFn76 fxFm76 fxFb76 fxFi76 fxFj76 fxFn77 fxFm77 fxFb77 fxFi77 fxFj77 fxFn78 fxFm78 fxFb78 fxFi78 fxFj78 fxFn79 fxFm79 fxFb79 fxFi79 fxFj79 fxFn80 fxFm80 fxFb80 fxFi80 fxFj80 fxFn81 fxFm81 fxFb81 fxFi81 fxFj81 fxFn82 fxFm82 fxFb82 fxFi82 fxFj82 fxFn83 fxFm83 fxFb83 fxFi83 fxFj83 fxFn84 fxFm84 fxFb84 fxFi84 fxFj84 fxFn85 fxFm85 fxFb85 fxFi85 fxFj85 fxFn86 fxFm86 fxFb86 fxFi86 fxFj86 fxFn87 fxFm87 fxFb87 fxFi87 fxFj87 fxFn88 fxFm88 fxFb88 fxFi88 fxFj88 fxFn89 fxFm89 fxFb89 fxFi89 fxFj89 fxFn90 fxFm90 fxFb90 fxFi90 fxFj90 fxFn91 fxFm91 fxFb91 fxFi91 fxFj91 fxFn92 fxFm92 fxFb92 fxFi92 fxFj92 fxFn93 fxFm93 fxFb93 fxFi93 fxFj93 fxFn94 fxFm94 fxFb94 fxFi94 fxFj94 fxFn95 fxFm95 fxFb95 fxFi95 fxFj95 fxFn96 fxFm96 fxFb96 fxFi96 fxFj96 fxFn97 fxFm97 fxFb97 fxFi97 fxFj97 fxFn98 fxFm98 fxFb98 fxFi98 fxFj98 fxFn99 fxFm99 fxFb99 fxFi99 fxFj99 fxFn100 fxFm100 fxFb100 fxFi100 fxFj100 fxFn101 fxFm101 fxFb101 fxFi101 fxFj101
attribute [local simp] Tk.eta Tk.cold Tk.mapM Tk.mapMc Tk.view Tk.viewc Tk.hotR Tk.ren Tk.renc Tk.low Tk.tau Tk.tauc Tk.bare Tk.flat Tk.flat1 Tk.mapMt Tk.mapMd Tk.coldt Tk.coldd Tk.hotRt Tk.hotRd
theorem ids_inj {l : List Tk} (h : l.Pairwise (fun a b => a.id ≠ b.id)) {a b : Tk} (ha : a ∈ l) (hb : b ∈ l) (e : a.id = b.id) : a = b := by
  induction l with
  | nil => simp at ha
  | cons x l ih =>
    rw [List.pairwise_cons] at h
    rcases List.mem_cons.1 ha with h1 | h1
    · rcases List.mem_cons.1 hb with h2 | h2
      · exact h1.trans h2.symm
      · subst h1; exact absurd e (h.1 b h2)
    · rcases List.mem_cons.1 hb with h2 | h2
      · subst h2; exact absurd e.symm (h.1 a h1)
      · exact ih h.2 h1 h2
theorem ordL_ids {l : List Tk} (g : TkGood l) : (ordL l).Pairwise (fun a b => a.id ≠ b.id) := by
  unfold ordL
  refine ((sortL_perm ordT ordT_swo _).pairwise_iff (fun h e => h e.symm)).2 ?_
  exact g.ids.filter _
theorem pick_sub (l : List Tk) (n : Int) : (pickL l n).Sublist (ordL l) := by
  obtain ⟨R, h⟩ := pickP_pre n (ordL l) 0
  unfold pickL
  conv => rhs; rw [h]
  exact List.sublist_append_left _ _
theorem pick_ids {l : List Tk} (g : TkGood l) (n : Int) : (pickL l n).Pairwise (fun a b => a.id ≠ b.id) := (ordL_ids g).sublist (pick_sub l n)
theorem pick_mem {l : List Tk} {n : Int} {t : Tk} (h : t ∈ pickL l n) : t ∈ l ∧ t.out = false := ordL_mem.1 ((pick_sub l n).subset h)
theorem pick_len {l : List Tk} (g : TkGood l) (n : Int) : (pickL l n).length ≤ 16 := by
  have h1 := (pick_sub l n).length_le
  have h2 := ordL_le l
  have := g.len
  omega
def idxT (l : List Tk) (d : Int) : Int := idxP (fun x => x.id == d) l
theorem idxT_mem {l : List Tk} (g : TkGood l) {t : Tk} (h : t ∈ l) : ∃ j : Nat, idxT l t.id = j ∧ ∃ hj : j < l.length, l[j] = t := by
  have h0 : ¬ idxT l t.id < 0 := by
    have : 0 ≤ idxT l t.id := (idxP_iff _ _).2 (List.any_eq_true.2 ⟨t, h, by simp⟩)
    omega
  obtain ⟨j, h1, hj, h2, _⟩ := idxP_some h0
  exact ⟨j, h1, hj, ids_inj g.ids (List.getElem_mem hj) h (by simpa using h2)⟩
def rCapI : RCod Int := rCell (cFp (rI .i64))
theorem fre1_pure : PureOk Try.prog 28 (argM (cAgg rTk) fun x => argM (cFp (rI .i64)) fun d => finM (some (.v (.bool (x.id == d))))) := by
  refine pure2 Try.func28 rfl ?_
  rintro x d r hr
  simp only [Option.some.injEq] at hr
  subst hr
  refine body_gen noOrc_ok fxMix (by kernel_rfl) (by simp [Try.ntmps28]) ?_
  intro C cP cI cN cD cF cA
  replace cI : C.inl = fun _ => false := cI
  replace cD : C.dyn = fun _ => [] := cD
  clear cP cN cF cA
  simp [Try.ntmps28, Try.results28, cSl, cI, cD, rTk, Tk.row, tkDec, rI, irow]
theorem freI_pure : PureOk Try.prog 27 (argM (cSl rTk) fun l => argM (cFn 28 rCapI) fun cp => finM (if l.length ≤ 4294967296 then some (.v (.int .i64 (idxP ((fun x => x.id == cp)) l))) else none)) := by
  refine pure2 Try.func27 rfl ?_
  rintro l cp r hr
  by_cases hc : l.length ≤ 4294967296
  case neg => rw [if_neg hc] at hr; cases hr
  rw [if_pos hc] at hr
  simp only [Option.some.injEq] at hr
  subst hr
  refine body_gen (noOrc_ok.withP fre1_pure) fxMix (by kernel_rfl) (by simp [Try.ntmps27]) ?_
  intro C cP cI cN cD cF cA
  have cp0 := orcP fre1_pure (C := C) (by rw [cP]; rfl)
  replace cI : C.inl = fun _ => false := cI
  replace cD : C.dyn = fun _ => [] := cD
  clear cP cN cF cA
  simp [Try.ntmps27, Try.results27, cSl, cp0, cI, cD, rTk, Tk.row, tkDec, rCapI, rI, irow, irowDec]
  refine loop_for l.length (fun k (_ : Unit) => ([(0, .fsl false 4 (l.map Tk.row)), (1, .fn 28 [.fptr (irow .i64 cp) 0]), (7, .v (.int .i64 l.length)), (8, .v (.int .i64 k))], [])) (fun k _ => ((l.drop k).findIdx? ((fun x => x.id == cp))).map (· + k) = l.findIdx? ((fun x => x.id == cp))) () hc (by simp) (by simp [rTk, Tk.row, tkDec, rCapI, rI, irow, irowDec]) ?_ ?_
  · intro k _ hk hall hw
    by_cases q : ((fun x => x.id == cp)) l[k] = true
    · rw [find_drop hk, if_pos q] at hall
      try simp at q
      simp [Try.ntmps27, Try.results27, cSl, cp0, cI, cD, hk, hw, rTk, Tk.row, tkDec, rCapI, rI, irow, irowDec, q, idxP, ← hall]
    · rw [find_drop hk, if_neg q] at hall
      try simp at q
      simp [Try.ntmps27, Try.results27, cSl, cp0, cI, cD, hk, hw, rTk, Tk.row, tkDec, rCapI, rI, irow, irowDec, q]
      simpa using hall
  · intro _ hall
    simp at hall
    simp [Try.ntmps27, Try.results27, cSl, cp0, cI, cD, idxP, ← hall]
theorem idxT_eq (l : List Tk) (d : Int) : idxP (fun x => x.id == d) l = idxT l d := rfl
theorem frees_pure : PureOk Try.prog 8 (argM (cSl rTk) fun l => argM (cInt .i64) fun n => finM (some (.v (.bool true)))) := by
  refine pure2 Try.func8 rfl ?_
  rintro l n r hr
  simp only [Option.some.injEq] at hr
  subst hr
  refine body_gen ((((noOrc_ok.withP pick_pure).withP ooms_pure).withP freI_pure).withP contains_pure) fxMix (by kernel_rfl) (by simp [Try.ntmps8]) ?_
  intro C cP cI cN cD cF cA
  have cp0 := orcP pick_pure (C := C) (by rw [cP]; rfl)
  have cp1 := orcP ooms_pure (C := C) (by rw [cP]; rfl)
  have cp2 := orcP freI_pure (C := C) (by rw [cP]; rfl)
  have cp3 := orcP contains_pure (C := C) (by rw [cP]; rfl)
  replace cI : C.inl = fun _ => false := cI
  replace cD : C.dyn = fun _ => [] := cD
  clear cP cN cF cA
  by_cases h0 : tkNeed l n = 0
  · obtain ⟨g, hn1, hn2⟩ := tkNeed_ok h0
    have hl := g.len
    have hl2 : l.length ≤ 4294967296 := by omega
    by_cases q : sumP (pickL l n) < n
    · have e1 := pickE_full h0 q
      simp [Try.ntmps8, Try.results8, cSl, cp0, cp1, cp2, cp3, cI, cD, rTk, e1]
      try done
    · have e1 := pickE_ok h0 q
      have hpl := pick_len g n
      have hpm : ∀ t ∈ pickL l n, t ∈ l ∧ t.out = false := fun t ht => pick_mem ht
      have hpi := pick_ids g n
      have hlast := fun Q t (h : pickL l n = Q ++ [t]) => pickP_last n (ordL l) 0 Q t h
      have hI : pickI l n = (pickL l n).map (·.id) := rfl
      generalize hP : pickL l n = P at *
      have hIl : (pickI l n).length = P.length := by rw [hI]; simp
      generalize pickI l n = I at *
      have hPb : ∀ t ∈ P, 0 ≤ t.pages ∧ t.pages ≤ 1048576 := fun t ht => by have := g.bnd t (hpm t ht).1; omega
      have hb := sumP_bnd hPb
      simp [Try.ntmps8, Try.results8, cSl, cp0, cp1, cp2, cp3, cI, cD, rTk, e1]
      refine loop_for P.length (fun k (last : Int) => ([(0, .fsl false 4 (l.map Tk.row)), (1, .v (.int .i64 n)), (5, .fsl true 1 (I.map (irow .i64))), (6, .v (.int .i64 (sumP P))), (8, .v (.int .i64 (sumP (P.take k)))), (9, .v (.int .i64 last)), (36, .fsl true 1 (I.map (irow .i64))), (37, .v (.int .i64 P.length)), (38, .v (.int .i64 k))], [])) (fun k last => ∀ t, (P.take k).getLast? = some t → last = t.pages) 0 (by omega) (by simp) (by simp [sumP, hIl]) ?_ ?_
      · rintro k last hk _ hw
        have hkI : k < I.length := by omega
        have hg : I[k] = (P[k]).id := by simp only [hI, List.getElem_map]
        obtain ⟨hm, ho⟩ := hpm P[k] (List.getElem_mem hk)
        obtain ⟨j, hj1, hj2, hj3⟩ := idxT_mem g hm
        have hj4 : ¬ (j : Int) < 0 := by omega
        have hkp : (P[k]).kept = false := by simp [Tk.out] at ho; exact ho.1
        have hpg : ¬ (P[k]).pages = 0 := by simp [Tk.out] at ho; exact ho.2
        have hnin : ¬ (P[k]).id ∈ I.take k := by
          rw [hI, ← List.map_take, List.mem_map]
          rintro ⟨y, hy, he⟩
          obtain ⟨i, hi, rfl⟩ := List.getElem_of_mem hy
          simp only [List.length_take] at hi
          have := (List.pairwise_iff_getElem.1 hpi) i k (by omega) hk (by omega)
          rw [List.getElem_take] at he
          exact this he
        have hnx : sumP (P.take (k + 1)) = sumP (P.take k) + (P[k]).pages := by rw [List.take_succ_eq_append_getElem hk, sumP_app, sumP_cons, sumP_nil]; omega
        have hb1 := sumP_bnd (l := P.take k) (fun t ht => hPb t (List.mem_of_mem_take ht))
        have hb2 := hPb P[k] (List.getElem_mem hk)
        have hlt : (P.take k).length = k := by simp; omega
        rw [hlt] at hb1
        have hw2 : IntKind.i64.wrap (sumP (P.take k) + (P[k]).pages) = sumP (P.take k) + (P[k]).pages := w64 (by omega) (by omega)
        have hla : ∀ t, (P.take (k + 1)).getLast? = some t → (P[k]).pages = t.pages := by
          intro t ht
          rw [List.take_succ_eq_append_getElem hk, List.getLast?_concat] at ht
          cases ht; rfl
        have hkle : k ≤ I.length := by omega
        have hkz : (k : Int) ≤ I.length := by omega
        have hk5 : k ≤ 4294967296 := by omega
        have hpgb : ((P[k]).pages == 0) = false := by simpa using hpg
        have hcm : List.mapM (irowDec .i64) (coldR (List.take k (List.map (irow .i64) I))) = some (I.take k) := by
          rw [← List.map_take, irow_cold]; exact irow_mapM _
        have hlk : min k I.length ≤ 4294967296 := by omega
        simp [Try.ntmps8, Try.results8, cSl, cp0, cp1, cp2, cp3, cI, cD, rTk, Tk.row, tkDec, rCapI, rI, irow, irowDec, hpgb, hcm, hlk, hkI, hk, hw, hg, hl2, idxT_eq, hj1, hj2, hj3, hj4, hkp, hpg, hnin, hnx, hw2, hkle, hkz, hk5]
        exact hla
      · rintro last hlst
        rw [List.take_length] at hlst
        have hn : P ≠ [] := by
          intro h; rw [h, sumP_nil] at q; omega
        have hsp := (List.dropLast_concat_getLast hn).symm
        have hq := hlast _ _ hsp
        have hll := hlst (P.getLast hn) (List.getLast?_eq_some_getLast hn)
        have hsum : sumP P = sumP P.dropLast + (P.getLast hn).pages := by
          conv => lhs; rw [hsp]
          rw [sumP_app, sumP_cons, sumP_nil]; omega
        have hbl := hPb _ (List.getLast_mem hn)
        have hw3 : IntKind.i64.wrap (sumP P - last) = sumP P - last := w64 (by omega) (by omega)
        have q3 : n ≤ sumP P := by omega
        have q4 : sumP P - last < n := by omega
        simp [Try.ntmps8, Try.results8, cSl, cp0, cp1, cp2, cp3, cI, cD, hw3, q3, q4]
        try done
  · have e1 := pickE_bad h0
    simp [Try.ntmps8, Try.results8, cSl, cp0, cp1, cp2, cp3, cI, cD, rTk, e1, h0]
    try done
theorem pick_spares {l : List Tk} (g : TkGood l) (n : Int) {t x : Tk} (ht : t ∈ l) (ho : t.out = false) (hn : ¬ t.id ∈ pickI l n) (hx : x ∈ l) (hi : x.id ∈ pickI l n) : ¬ t.score < x.score := by
  obtain ⟨R, hR⟩ := pickP_pre n (ordL l) 0
  have hs := sortL_sorted ordT ordT_swo (l.filter (fun x => !x.out))
  rw [show sortL ordT (l.filter (fun x => !x.out)) = ordL l from rfl, hR, List.pairwise_append] at hs
  unfold pickI at hn hi
  rw [List.mem_map] at hi
  obtain ⟨y, hy, he⟩ := hi
  have hxy : y = x := ids_inj g.ids (pick_mem hy).1 hx he
  subst hxy
  have htd : t ∈ ordL l := ordL_mem.2 ⟨ht, ho⟩
  rw [hR] at htd
  rcases List.mem_append.1 htd with h | h
  · exact absurd (List.mem_map.2 ⟨t, h, rfl⟩) hn
  · intro hlt
    exact hs.2.2 y hy t h (ordT_neg.2 (.inl hlt))
theorem spares_pure : PureOk Try.prog 9 (argM (cSl rTk) fun l => argM (cInt .i64) fun n => finM (some (.v (.bool true)))) := by
  refine pure2 Try.func9 rfl ?_
  rintro l n r hr
  simp only [Option.some.injEq] at hr
  subst hr
  refine body_gen (((noOrc_ok.withP pick_pure).withP ooms_pure).withP contains_pure) fxMix (by kernel_rfl) (by simp [Try.ntmps9]) ?_
  intro C cP cI cN cD cF cA
  have cp0 := orcP pick_pure (C := C) (by rw [cP]; rfl)
  have cp1 := orcP ooms_pure (C := C) (by rw [cP]; rfl)
  have cp2 := orcP contains_pure (C := C) (by rw [cP]; rfl)
  replace cI : C.inl = fun _ => false := cI
  replace cD : C.dyn = fun _ => [] := cD
  clear cP cN cF cA
  by_cases h0 : tkNeed l n = 0
  · obtain ⟨g, hn1, hn2⟩ := tkNeed_ok h0
    have hl := g.len
    have hl2 : l.length ≤ 4294967296 := by omega
    by_cases q : sumP (pickL l n) < n
    · have e1 := pickE_full h0 q
      simp [Try.ntmps9, Try.results9, cSl, cp0, cp1, cp2, cI, cD, rTk, e1]
      try done
    · have e1 := pickE_ok h0 q
      have hpl := pick_len g n
      have hsp := fun t x (ht : t ∈ l) (ho : t.out = false) (hn : ¬ t.id ∈ pickI l n) (hx : x ∈ l) (hi : x.id ∈ pickI l n) => pick_spares g n ht ho hn hx hi
      have hIl : (pickI l n).length ≤ 4294967296 := by unfold pickI; rw [List.length_map]; omega
      generalize pickI l n = I at *
      simp [Try.ntmps9, Try.results9, cSl, cp0, cp1, cp2, cI, cD, rTk, e1]
      refine loop_for l.length (fun k (_ : Unit) => ([(0, .fsl false 4 (l.map Tk.row)), (5, .fsl true 1 (I.map (irow .i64))), (26, .fsl false 4 (l.map Tk.row)), (27, .v (.int .i64 l.length)), (28, .v (.int .i64 k))], [])) (fun k _ => True) () (by omega) trivial (by simp) ?_ ?_
      · rintro k _ hk _ hw
        have e0 : (irow .i64 (l[k]).id)[0]? = some (.v (.int .i64 (l[k]).id)) := rfl
        have hmk : l[k] ∈ l := List.getElem_mem hk
        by_cases hkp : (l[k]).kept = true
        · simp [Try.ntmps9, Try.results9, cSl, cp0, cp1, cp2, cI, cD, rTk, Tk.row, tkDec, rI, hIl, hk, hw, hkp]
          try done
        by_cases hpg : (l[k]).pages = 0
        · simp [Try.ntmps9, Try.results9, cSl, cp0, cp1, cp2, cI, cD, rTk, Tk.row, tkDec, rI, hIl, hk, hw, hkp, hpg]
          try done
        simp only [Bool.not_eq_true] at hkp
        have ho : (l[k]).out = false := by simp [Tk.out, hkp, hpg]
        by_cases hin : (l[k]).id ∈ I
        · simp [Try.ntmps9, Try.results9, cSl, cp0, cp1, cp2, cI, cD, rTk, Tk.row, tkDec, rI, hIl, hk, hw, hkp, hpg, hin]
          try done
        · simp [Try.ntmps9, Try.results9, cSl, cp0, cp1, cp2, cI, cD, rTk, Tk.row, tkDec, rI, hIl, hk, hw, hkp, hpg, hin]
          refine loop_for l.length (fun j (_ : Unit) => ([(0, .fsl false 4 (l.map Tk.row)), (5, .fsl true 1 (I.map (irow .i64))), (9, .ptr 0 4 0 0), (26, .fsl false 4 (l.map Tk.row)), (27, .v (.int .i64 l.length)), (28, .v (.int .i64 k)), (45, .fsl false 4 (l.map Tk.row)), (46, .v (.int .i64 l.length)), (47, .v (.int .i64 j))], [some (4, [(l[k]).row])])) (fun j _ => True) () (by omega) trivial (by simp [Tk.row, hkp]) ?_ ?_
          · rintro j _ hj _ hwj
            have hs := hsp l[k] l[j] hmk ho hin (List.getElem_mem hj)
            by_cases hji : (l[j]).id ∈ I
            · have hs2 := hs hji
              simp [Try.ntmps9, Try.results9, cSl, cp0, cp1, cp2, cI, cD, rTk, Tk.row, tkDec, rI, hIl, hj, hwj, hji, hs2]
              try done
            · simp [Try.ntmps9, Try.results9, cSl, cp0, cp1, cp2, cI, cD, rTk, Tk.row, tkDec, rI, hIl, hj, hwj, hji]
              try done
          · rintro _ _
            simp [Try.ntmps9, Try.results9, cSl, cp0, cp1, cp2, cI, cD, hw]
            try done
      · rintro _ _
        simp [Try.ntmps9, Try.results9, cSl, cp0, cp1, cp2, cI, cD]
        try done
  · have e1 := pickE_bad h0
    simp [Try.ntmps9, Try.results9, cSl, cp0, cp1, cp2, cI, cD, rTk, e1, h0]
    try done
end Go.Proofs.Ytdhkhnegnlmgiaa
