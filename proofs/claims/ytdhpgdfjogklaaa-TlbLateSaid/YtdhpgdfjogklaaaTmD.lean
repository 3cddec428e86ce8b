/- ringkeep2: TlbFills. ringkeep2: serve. ringkeep2: what a shootdown leaves, plainly. -/
import Derived.Test.YtdhpgdfjogklaaaTmC
import Derived.Test.YtdhpgdfjogklaaaAiZi
namespace Go.Proofs.Ytdhpgdfjogklaaa
open Go.AI
set_option maxHeartbeats 2000000
set_option maxRecDepth 100000
set_option linter.unusedSimpArgs false
set_option linter.unusedVariables false
attribute [local simp] wpA wpX RunA RunD runF foot footP footB idsA bare apart runL step1 gsel_f gsel_t gsel_s res_same res_and1 res_and2 res_and3 res_and4 res_and5 res_and6 res_false res_true res_v res_ptr res_fptr res_osl res_xsl soft aAppendZ aCap ovlI ovlJ res_fsl res_esl res_agg res_tup res_fn res_junk res_anyb aPick hk imp_left iteV dstOk guardOk astep astepE AI.ev AI.look AI.put envOf aBox cellsOf allOne allOneA oneA Value.oneCell' Value.cells newObj' aFieldAddr aLoad obj readAt thenA blockA condA retA resA tupA view hot hotC hotR depthV cAgg cInt cBool mkAgg allV aAlloc aBuild fillA writeAt aStore isAggA aField idx aIndexAddr aIndex bnd aSlice aExtract aLen aBuiltin aCall isStatic eqAgg eqTy eqC ev_add ev_sub ev_mul ev_quo ev_rem ev_and ev_or ev_xor ev_andNot ev_shl ev_shr ev_eql ev_neq ev_lss ev_leq ev_gtr ev_geq ev_agg w64 wu32 wu8 ev_not ev_neg Cod.plain RCod.plain argM finM cold coldC coldR goInt intDec boolDec aggDec Weaker heapW lowA lowC Again slDec undef aBuildSlice setRows aAppend rowsOf aMakeSlice aClear aCopy softer_self softer_nil valsOf ev_min2 ev_max2 hotR_set hotR_append take_map_set irow_cold irow_mapM irow_mapMc irow_view irow_viewc irow_hotR irow_ren irow_renc irow_low WeakT heapT thOf ren renC AgainT NextF NextT fnDec cFn rNil selfLt natLt0 natLt1 getLastMap frame0 frame1 own0 own1 argG finG tau tauI tauO tauC bareA bareC bareH irow_tau irow_tauc irow_bare irow_flat irow_bareR ownA_nil ownT_nil ownA_c ownT_c ownA_s ownT_s takeMapLen footC plainA noId noIdC cloneF frame0F frame1F insertF replaceI replaceF cellDec rCell fpDec cFp rTwo deleteF allV_oA oneA_oA res_oA RunR RunE runFT footAt hotR_cat tmodN fxSz2 fxBy2 fxAg2 fxZe2 fxSl2 fxAr2 fxPl2 fxSz3 fxBy3 fxAg3 fxZe3 fxSl3 fxAr3 fxPl3 fxSz4 fxBy4 fxAg4 fxZe4 fxSl4 fxAr4 fxPl4 fxSz5 fxBy5 fxAg5 fxZe5 fxSl5 fxAr5 fxPl5 fxSz9 fxBy9 fxAg9 fxZe9 fxSl9 fxAr9 fxPl9 fxSz12 fxBy12 fxAg12 fxZe12 fxSl12 fxAr12 fxPl12 fxSz13 fxBy13 fxAg13 fxZe13 fxSl13 fxAr13 fxFi13x0 fxFi13x1 fxPl13 fxSz21 fxBy21 fxAg21 fxZe21 fxSl21 fxAr21 fxPl21 fxSz22 fxBy22 fxAg22 fxZe22 fxSl22 fxAr22 fxPl22 fxSz23 fxBy23 fxAg23 fxZe23 fxSl23 fxAr23 fxFi23x0 fxFi23x1 fxPl23 fxSz24 fxBy24 fxAg24 fxZe24 fxSl24 fxAr24 fxFi24x0 fxFi24x1 fxPl24 fxSz25 fxBy25 fxAg25 fxZe25 fxSl25 fxAr25 fxPl25 fxSz26 fxBy26 fxAg26 fxZe26 fxSl26 fxAr26 fxPl26 fxSz27 fxBy27 fxAg27 fxZe27 fxSl27 fxAr27 fxFi27x0 fxFi27x1 fxFi27x2 fxFi27x3 fxFi27x4 fxFi27x5 fxFi27x6 fxPl27 fxSz28 fxBy28 fxAg28 fxZe28 fxSl28 fxAr28 fxFi28x0 fxFi28x1 fxFi28x2 fxFi28x3 fxFi28x4 fxFi28x5 fxFi28x6 fxPl28 fxSz29 fxBy29 fxAg29 fxZe29 fxSl29 fxAr29 fxPl29 fxSz44 fxBy44 fxAg44 fxZe44 fxSl44 fxAr44 fxPl44 fxSz45 fxBy45 fxAg45 fxZe45 fxSl45 fxAr45 fxPl45 fxSz52 fxBy52 fxAg52 fxZe52 fxSl52 fxAr52 fxPl52 fxSz54 fxBy54 fxAg54 fxZe54 fxSl54 fxAr54 fxFi54x0 fxFi54x1 fxPl54 fxSz55 fxBy55 fxAg55 fxZe55 fxSl55 fxAr55 fxFi55x0 fxFi55x1 fxPl55 fxSz56 fxBy56 fxAg56 fxZe56 fxSl56 fxAr56 fxPl56 fxSz60 fxBy60 fxAg60 fxZe60 fxSl60 fxAr60 fxPl60 fxSz61 fxBy61 fxAg61 fxZe61 fxSl61 fxAr61 fxPl61 fxSz62 fxBy62 fxAg62 fxZe62 fxSl62 fxAr62 fxFi62x0 fxFi62x1 fxPl62 fxSz63 fxBy63 fxAg63 fxZe63 fxSl63 fxAr63 fxFi63x0 fxFi63x1 fxPl63 fxSz76 fxBy76 fxAg76 fxZe76 fxSl76 fxAr76 fxPl76 fxSz83 fxBy83 fxAg83 fxZe83 fxSl83 fxAr83 fxFi83x0 fxFi83x1 fxFi83x2 fxPl83 fxSz84 fxBy84 fxAg84 fxZe84 fxSl84 fxAr84 fxFi84x0 fxFi84x1 fxFi84x2 fxPl84 fxSz99 fxBy99 fxAg99 fxZe99 fxSl99 fxAr99 fxPl99 fxSz106 fxBy106 fxAg106 fxZe106 fxSl106 fxAr106 fxPl106 fxSz107 fxBy107 fxAg107 fxZe107 fxSl107 fxAr107 fxFi107x0 fxPl107 fxSz113 fxBy113 fxAg113 fxZe113 fxSl113 fxAr113 fxPl113 fxSz118 fxBy118 fxAg118 fxZe118 fxSl118 fxAr118 fxPl118 fxEq28 fxEq55 fxEq56 fxEq84 fxCv2x2 fxCv2x3 fxCv2x5 fxCv2x12 fxCv2x21 fxCv2x29 fxCv2x45 fxCv3x2 fxCv3x3 fxCv3x5 fxCv3x12 fxCv3x21 fxCv3x29 fxCv3x45 fxCv5x2 fxCv5x3 fxCv5x5 fxCv5x12 fxCv5x21 fxCv5x29 fxCv5x45 fxCv12x2 fxCv12x3 fxCv12x5 fxCv12x12 fxCv12x21 fxCv12x29 fxCv12x45 fxCv21x2 fxCv21x3 fxCv21x5 fxCv21x12 fxCv21x21 fxCv21x29 fxCv21x45 fxCv29x2 fxCv29x3 fxCv29x5 fxCv29x12 fxCv29x21 fxCv29x29 fxCv29x45 fxCv45x2 fxCv45x3 fxCv45x5 fxCv45x12 fxCv45x21 fxCv45x29 fxCv45x45 fxEb4 fxNb4 fxLt9 fxLn22 fxNe22 fxNn22 fxOe22 fxOn22 fxXe22 fxXn22 fxLn44 fxNe44 fxNn44 fxOe44 fxOn44 fxXe44 fxXn44 fxLn52 fxNe52 fxNn52 fxOe52 fxOn52 fxXe52 fxXn52 fxLn60 fxNe60 fxNn60 fxOe60 fxOn60 fxXe60 fxXn60 fxLn61 fxNe61 fxNn61 fxOe61 fxOn61 fxXe61 fxXn61 fxLn76 fxNe76 fxNn76 fxOe76 fxOn76 fxXe76 fxXn76 fxFn3 fxFm3 fxFb3 fxFi3 fxFj3 fxFn4 fxFm4 fxFb4 fxFi4 fxFj4 fxFn5 fxFm5 fxFb5 fxFi5 fxFj5 fxFn6 fxFm6 fxFb6 fxFi6 fxFj6 fxFn7 fxFm7 fxFb7 fxFi7 fxFj7 fxFn8 fxFm8 fxFb8 fxFi8 fxFj8 fxFn9 fxFm9 fxFb9 fxFi9 fxFj9 fxFn10 fxFm10 fxFb10 fxFi10 fxFj10 fxFn11 fxFm11 fxFb11 fxFi11 fxFj11 fxFn12 fxFm12 fxFb12 fxFi12 fxFj12 fxFn13 fxFm13 fxFb13 fxFi13 fxFj13 fxFn14 fxFm14 fxFb14 fxFi14 fxFj14 fxFn15 fxFm15 fxFb15 fxFi15 fxFj15 fxFn16 fxFm16 fxFb16 fxFi16 fxFj16 fxFn17 fxFm17 fxFb17 fxFi17 fxFj17 fxFn18 fxFm18 fxFb18 fxFi18 fxFj18 fxFn19 fxFm19 fxFb19 fxFi19 fxFj19 fxFn20 fxFm20 fxFb20 fxFi20 fxFj20 fxFn21 fxFm21 fxFb21 fxFi21 fxFj21 fxFn22 fxFm22 fxFb22 fxFi22 fxFj22 fxFn23 fxFm23 fxFb23 fxFi23 fxFj23 fxFn24 fxFm24 fxFb24 fxFi24 fxFj24 fxFn25 fxFm25 fxFb25 fxFi25 fxFj25 fxFn26 fxFm26 fxFb26 fxFi26 fxFj26 fxFn27 fxFm27 fxFb27 fxFi27 fxFj27 fxFn28 fxFm28 fxFb28 fxFi28 fxFj28 fxFn29 fxFm29 fxFb29 fxFi29 fxFj29 fxFn30 fxFm30 fxFb30 fxFi30 fxFj30 fxFn31 fxFm31 fxFb31 fxFi31 fxFj31 fxFn32 fxFm32 fxFb32 fxFi32 fxFj32 fxFn33 fxFm33 fxFb33 fxFi33 fxFj33 fxFn34 fxFm34 fxFb34 fxFi34 fxFj34 fxFn35 fxFm35 fxFb35 fxFi35 fxFj35 fxFn36 fxFm36 fxFb36 fxFi36 fxFj36 fxFn37 fxFm37 fxFb37 fxFi37 fxFj37 fxFn38 fxFm38 fxFb38 fxFi38 fxFj38 fxFn39 fxFm39 fxFb39 fxFi39 fxFj39 fxFn40 fxFm40 fxFb40 fxFi40 fxFj40 fxFn41 fxFm41 fxFb41 fxFi41 fxFj41 fxFn42 fxFm42 fxFb42 fxFi42 fxFj42 fxFn43 fxFm43 fxFb43 fxFi43 fxFj43 fxFn44 fxFm44 fxFb44 fxFi44 fxFj44 fxFn45 fxFm45 fxFb45 fxFi45 fxFj45 fxFn46 fxFm46 fxFb46 fxFi46 fxFj46 fxFn47 fxFm47 fxFb47 fxFi47 fxFj47 fxFn48 fxFm48 fxFb48 fxFi48 fxFj48 fxFn49 fxFm49 fxFb49 fxFi49 fxFj49 fxFn50 fxFm50 fxFb50 fxFi50 fxFj50 fxFn51 fxFm51 fxFb51 fxFi51 fxFj51 fxFn52 fxFm52 fxFb52 fxFi52 fxFj52 fxFn53 fxFm53 fxFb53 fxFi53 fxFj53 fxFn54 fxFm54 fxFb54 fxFi54 fxFj54 fxFn55 fxFm55 fxFb55 fxFi55 fxFj55 fxFn56 fxFm56 fxFb56 fxFi56 fxFj56 fxFn57 fxFm57 fxFb57 fxFi57 fxFj57 fxFn58 fxFm58 fxFb58 fxFi58 fxFj58 fxFn59 fxFm59 fxFb59 fxFi59 fxFj59 fxFn60 fxFm60 fxFb60 fxFi60 fxFj60
attribute [local simp] Ln.eta Ln.cold Ln.mapM Ln.mapMc Ln.view Ln.viewc Ln.hotR Ln.ren Ln.renc Ln.low Ln.tau Ln.tauc Ln.bare Ln.flat Ln.flat1 Ln.mapMt Ln.mapMd Ln.coldt Ln.coldd Ln.hotRt Ln.hotRd
attribute [local simp] Od.eta Od.cold Od.mapM Od.mapMc Od.view Od.viewc Od.hotR Od.ren Od.renc Od.low Od.tau Od.tauc Od.bare Od.flat Od.flat1 Od.mapMt Od.mapMd Od.coldt Od.coldd Od.hotRt Od.hotRd
attribute [local simp] Cpu.eta Cpu.dec_row Cpu.dec_hrow Cpu.cold Cpu.hcold Cpu.mapM Cpu.mapMc Cpu.hmapM Cpu.hmapMc Cpu.view Cpu.viewc Cpu.hview Cpu.hviewc Cpu.hotR Cpu.ren Cpu.renc Cpu.low Cpu.hlow
theorem fillL_ok {L : List Ln} {x : Ln} (h : LnsOk L) (hx : okSP x.space x.page = true) (hl : L.length ≤ 8) : LnsOk (fillL L x) ∧ (fillL L x).length ≤ 8 := by
  unfold fillL
  have hs : (if (L.filter (fun y => !(y.at x.space x.page))).length = 8 then (L.filter (fun y => !(y.at x.space x.page))).drop 1 else L.filter (fun y => !(y.at x.space x.page))).Sublist (L.filter (fun y => !(y.at x.space x.page))) := by
    split
    · exact List.drop_sublist _ _
    · exact List.Sublist.refl _
  have hM : (L.filter (fun y => !(y.at x.space x.page))).length ≤ 8 := Nat.le_trans (List.length_filter_le _ _) hl
  have hl2 : (if (L.filter (fun y => !(y.at x.space x.page))).length = 8 then (L.filter (fun y => !(y.at x.space x.page))).drop 1 else L.filter (fun y => !(y.at x.space x.page))).length ≤ 7 := by
    split
    · rw [List.length_drop]; omega
    · omega
  have hok := (h.sub List.filter_sublist).sub hs
  refine ⟨⟨?_, ?_⟩, by simp only [List.length_append, List.length_cons, List.length_nil]; omega⟩
  · intro y hy
    rcases List.mem_append.1 hy with hy | hy
    · exact hok.1 y hy
    · simp at hy; subst hy; exact hx
  · rw [List.pairwise_append]
    refine ⟨hok.2, by simp, ?_⟩
    intro a ha b hb
    simp at hb; subst hb
    have := hs.subset ha
    rw [List.mem_filter] at this
    simpa using this.2
theorem fillL_sub (L : List Ln) (x : Ln) : ∃ M : List Ln, M.Sublist L ∧ (∀ y ∈ M, y.at x.space x.page = false) ∧ fillL L x = M ++ [x] := by
  refine ⟨_, ?_, ?_, rfl⟩
  · split
    · exact (List.drop_sublist _ _).trans List.filter_sublist
    · exact List.filter_sublist
  · intro y hy
    have : y ∈ L.filter (fun y => !(y.at x.space x.page)) := by
      split at hy
      · exact List.mem_of_mem_drop hy
      · exact hy
    rw [List.mem_filter] at this
    simpa using this.2
theorem fillL_at (L : List Ln) (x : Ln) : lkL (fillL L x) x.space x.page = some x.word := by
  obtain ⟨M, _, h2, h3⟩ := fillL_sub L x
  rw [h3]
  unfold lkL
  rw [List.find?_append, List.find?_eq_none.2 (fun y hy => by simp [h2 y hy])]
  have : x.at x.space x.page = true := by rw [at_iff]; exact ⟨rfl, rfl⟩
  simp [this]
theorem fillL_none {L : List Ln} {x : Ln} {s p : Int} (h : lkL L s p = none) (hx : ¬ (x.space = s ∧ x.page = p)) : lkL (fillL L x) s p = none := by
  obtain ⟨M, h1, _, h3⟩ := fillL_sub L x
  have h4 := lk_sub h1 h
  rw [lk_none] at h4 ⊢
  intro y hy
  rw [h3] at hy
  rcases List.mem_append.1 hy with hy | hy
  · exact h4 y hy
  · simp at hy; subst hy
    cases hh : y.at s p with
    | false => rfl
    | true => exact absurd ((at_iff _ _ _).1 hh) hx
theorem lookW_eq (l : List Cpu) (c s p : Int) : tlLookW l c s p = if tlChk l c = 0 then (lkL (cpuAt l c).lines s p).getD 0 else 0 := by
  unfold tlLookW; rw [lkW_eq]
theorem lookB_eq (l : List Cpu) (c s p : Int) : tlLookB l c s p = if tlChk l c = 0 then (lkL (cpuAt l c).lines s p).isSome else false := by
  unfold tlLookB; rw [lkB_eq]
theorem chk_same {l x : List Cpu} (h1 : tlCheck l = 0) (h2 : tlCheck x = 0) (hl : x.length = l.length) (o : Int) : tlChk x o = tlChk l o := by
  unfold tlChk; rw [h1, h2, hl]
theorem tlChk_ne {l : List Cpu} {c e : Int} (h : tlChk l c = e) (h0 : ¬ tlChk l c = 0) : e ≠ 0 := fun h2 => h0 (by rw [h, h2])
theorem fill_ok {l x : List Cpu} {c s p w : Int} (h : tlFill l c s p w = .ok x) : tlCheck l = 0 ∧ okSP s p = true ∧ ∃ (k : Nat) (hk : k < l.length), c = k ∧ x = l.set k ⟨fillL l[k].lines ⟨s, p, w⟩, l[k].orders⟩ ∧ tlCheck x = 0 := by
  unfold tlFill at h
  split at h
  · rename_i h0
    obtain ⟨g0, g1, g2⟩ := tlChk_iff.1 h0
    obtain ⟨k, rfl⟩ := Int.eq_ofNat_of_zero_le g1
    have hk : k < l.length := by omega
    split at h
    · rename_i h1
      rw [cpuAt_nat hk] at h
      cases h
      refine ⟨g0, h1, k, hk, rfl, rfl, ?_⟩
      obtain ⟨a1, a2, a3⟩ := tlOk_iff.1 g0
      rw [tlOk_iff]
      refine ⟨by simpa using a1, by simpa using a2, ?_⟩
      intro y hy
      rcases List.mem_or_eq_of_mem_set hy with hy | hy
      · exact a3 y hy
      · subst hy
        obtain ⟨b1, b2, b3, b4⟩ := a3 l[k] (List.getElem_mem hk)
        obtain ⟨c1, c2⟩ := fillL_ok (x := ⟨s, p, w⟩) b3 h1 b1
        exact ⟨c2, b2, c1, b4⟩
    · cases h
  · cases h
theorem fill_err {l : List Cpu} {c s p w e : Int} (h : tlFill l c s p w = .error e) : e ≠ 0 := by
  unfold tlFill at h
  split at h
  · split at h
    · cases h
    · cases h; decide
  · rename_i h0; cases h; exact h0
theorem fills_spec {l x : List Cpu} {c s p w : Int} (h : tlFill l c s p w = .ok x) (o : Int) : tlCheck x = 0 ∧ tlChk x c = 0 ∧ tlLookW x c s p = w ∧ tlLookB x c s p = true ∧ tlChk x o = tlChk l o ∧ (o ≠ c → tlLookW x o s p = tlLookW l o s p ∧ tlLookB x o s p = tlLookB l o s p) := by
  obtain ⟨h0, h1, k, hk, rfl, rfl, h2⟩ := fill_ok h
  have hl : (l.set k ⟨fillL l[k].lines ⟨s, p, w⟩, l[k].orders⟩).length = l.length := by simp
  have hc : tlChk (l.set k ⟨fillL l[k].lines ⟨s, p, w⟩, l[k].orders⟩) k = 0 := tlChk_iff.2 ⟨h2, by omega, by rw [hl]; omega⟩
  have ha := fillL_at l[k].lines ⟨s, p, w⟩
  refine ⟨h2, hc, ?_, ?_, chk_same h0 h2 hl o, ?_⟩
  · rw [lookW_eq, if_pos hc, cpuAt_nat (by rw [hl]; exact hk), List.getElem_set_self]
    simp only at ha ⊢
    rw [ha]; rfl
  · rw [lookB_eq, if_pos hc, cpuAt_nat (by rw [hl]; exact hk), List.getElem_set_self]
    simp only at ha ⊢
    rw [ha]; rfl
  · intro ho
    have hat : tlChk l o = 0 → cpuAt (l.set k ⟨fillL l[k].lines ⟨s, p, w⟩, l[k].orders⟩) o = cpuAt l o := by
      intro hh
      obtain ⟨_, g1, g2⟩ := tlChk_iff.1 hh
      obtain ⟨j, rfl⟩ := Int.eq_ofNat_of_zero_le g1
      have hj : j < l.length := by omega
      rw [cpuAt_nat (by rw [hl]; exact hj), cpuAt_nat hj, List.getElem_set_ne (by omega)]
    rw [lookW_eq, lookW_eq, lookB_eq, lookB_eq, chk_same h0 h2 hl o]
    by_cases hh : tlChk l o = 0
    · rw [if_pos hh, if_pos hh, if_pos hh, if_pos hh, hat hh]; exact ⟨rfl, rfl⟩
    · rw [if_neg hh, if_neg hh, if_neg hh, if_neg hh]; exact ⟨rfl, rfl⟩
theorem tlbs_pure : PureOk Try.prog 20 ( finM (some (.v (.bool true)))) := by
  refine pure0 Try.func20 rfl ?_
  rintro  r hr
  simp only [Option.some.injEq] at hr
  subst hr
  refine body_gen (noOrc_ok.withP tlFill_pure) fxMix (by kernel_rfl) (by simp [Try.ntmps20]) ?_
  intro C cP cI cN cD cF cA
  have cp0 := orcP tlFill_pure (C := C) (by rw [cP]; rfl)
  replace cI : C.inl = fun _ => false := cI
  replace cD : C.dyn = fun _ => [] := cD
  clear cP cN cF cA
  have hF : tlFill [⟨[], []⟩] 0 1 2 7 = .ok [⟨[⟨1, 2, 7⟩], []⟩] := rfl
  simp [Try.ntmps20, Try.results20, cSl, cp0, cI, cD, rCpu, cpuDec, Cpu.row, Cpu.hrow, rLn, lnDec, Ln.row, rOd, odDec, Od.row, hF, flE]
  done
theorem fills_pure : PureOk Try.prog 7 (argM (cSl rCpu) fun l => argM (cInt .i64) fun c => argM (cInt .i64) fun o => argM (cInt .i64) fun s => argM (cInt .i64) fun p => argM (cInt .u32) fun w => finM (some (.v (.bool true)))) := by
  refine pure6 Try.func7 rfl ?_
  rintro l c o s p w r hr
  simp only [Option.some.injEq] at hr
  subst hr
  refine body_gen ((((noOrc_ok.withP tlFill_pure).withP tlLook_pure).withP tlCheck_pure).withP tlbs_pure) fxMix (by kernel_rfl) (by simp [Try.ntmps7]) ?_
  intro C cP cI cN cD cF cA
  have cp0 := orcP tlFill_pure (C := C) (by rw [cP]; rfl)
  have cp1 := orcP tlLook_pure (C := C) (by rw [cP]; rfl)
  have cp2 := orcP tlCheck_pure (C := C) (by rw [cP]; rfl)
  have cp3 := orcP tlbs_pure (C := C) (by rw [cP]; rfl)
  replace cI : C.inl = fun _ => false := cI
  replace cD : C.dyn = fun _ => [] := cD
  clear cP cN cF cA
  cases h1 : tlFill l c s p w with
  | error e =>
    have he := fill_err h1
    simp [Try.ntmps7, Try.results7, cSl, cp0, cp1, cp2, cp3, cI, cD, rCpu, cpuDec, Cpu.row, Cpu.hrow, rLn, lnDec, rOd, odDec, h1, he, flE]
    done
  | ok x =>
    obtain ⟨a1, a2, a3, a4, a5, a6⟩ := fills_spec h1 o
    by_cases ho : o = c
    · subst ho
      have a7 := a5.symm.trans a2
      simp [Try.ntmps7, Try.results7, cSl, cp0, cp1, cp2, cp3, cI, cD, a7, rCpu, cpuDec, Cpu.row, Cpu.hrow, rLn, lnDec, rOd, odDec, h1, flE, a1, a2, a3, a4, a5]
      done
    · obtain ⟨b1, b2⟩ := a6 ho
      simp [Try.ntmps7, Try.results7, cSl, cp0, cp1, cp2, cp3, cI, cD, rCpu, cpuDec, Cpu.row, Cpu.hrow, rLn, lnDec, rOd, odDec, h1, flE, a1, a2, a3, a4, a5, b1, b2, ho]
      done
end Go.Proofs.Ytdhpgdfjogklaaa
namespace Go.Proofs.Ytdhpgdfjogklaaa
open Go.AI
set_option maxHeartbeats 2000000
set_option maxRecDepth 100000
set_option linter.unusedSimpArgs false
set_option linter.unusedVariables false
attribute [local simp] wpA wpX RunA RunD runF foot footP footB idsA bare apart runL step1 gsel_f gsel_t gsel_s res_same res_and1 res_and2 res_and3 res_and4 res_and5 res_and6 res_false res_true res_v res_ptr res_fptr res_osl res_xsl soft aAppendZ aCap ovlI ovlJ res_fsl res_esl res_agg res_tup res_fn res_junk res_anyb aPick hk imp_left iteV dstOk guardOk astep astepE AI.ev AI.look AI.put envOf aBox cellsOf allOne allOneA oneA Value.oneCell' Value.cells newObj' aFieldAddr aLoad obj readAt thenA blockA condA retA resA tupA view hot hotC hotR depthV cAgg cInt cBool mkAgg allV aAlloc aBuild fillA writeAt aStore isAggA aField idx aIndexAddr aIndex bnd aSlice aExtract aLen aBuiltin aCall isStatic eqAgg eqTy eqC ev_add ev_sub ev_mul ev_quo ev_rem ev_and ev_or ev_xor ev_andNot ev_shl ev_shr ev_eql ev_neq ev_lss ev_leq ev_gtr ev_geq ev_agg w64 wu32 wu8 ev_not ev_neg Cod.plain RCod.plain argM finM cold coldC coldR goInt intDec boolDec aggDec Weaker heapW lowA lowC Again slDec undef aBuildSlice setRows aAppend rowsOf aMakeSlice aClear aCopy softer_self softer_nil valsOf ev_min2 ev_max2 hotR_set hotR_append take_map_set irow_cold irow_mapM irow_mapMc irow_view irow_viewc irow_hotR irow_ren irow_renc irow_low WeakT heapT thOf ren renC AgainT NextF NextT fnDec cFn rNil selfLt natLt0 natLt1 getLastMap frame0 frame1 own0 own1 argG finG tau tauI tauO tauC bareA bareC bareH irow_tau irow_tauc irow_bare irow_flat irow_bareR ownA_nil ownT_nil ownA_c ownT_c ownA_s ownT_s takeMapLen footC plainA noId noIdC cloneF frame0F frame1F insertF replaceI replaceF cellDec rCell fpDec cFp rTwo deleteF allV_oA oneA_oA res_oA RunR RunE runFT footAt hotR_cat tmodN fxSz2 fxBy2 fxAg2 fxZe2 fxSl2 fxAr2 fxPl2 fxSz3 fxBy3 fxAg3 fxZe3 fxSl3 fxAr3 fxPl3 fxSz4 fxBy4 fxAg4 fxZe4 fxSl4 fxAr4 fxPl4 fxSz5 fxBy5 fxAg5 fxZe5 fxSl5 fxAr5 fxPl5 fxSz9 fxBy9 fxAg9 fxZe9 fxSl9 fxAr9 fxPl9 fxSz12 fxBy12 fxAg12 fxZe12 fxSl12 fxAr12 fxPl12 fxSz13 fxBy13 fxAg13 fxZe13 fxSl13 fxAr13 fxFi13x0 fxFi13x1 fxPl13 fxSz21 fxBy21 fxAg21 fxZe21 fxSl21 fxAr21 fxPl21 fxSz22 fxBy22 fxAg22 fxZe22 fxSl22 fxAr22 fxPl22 fxSz23 fxBy23 fxAg23 fxZe23 fxSl23 fxAr23 fxFi23x0 fxFi23x1 fxPl23 fxSz24 fxBy24 fxAg24 fxZe24 fxSl24 fxAr24 fxFi24x0 fxFi24x1 fxPl24 fxSz25 fxBy25 fxAg25 fxZe25 fxSl25 fxAr25 fxPl25 fxSz26 fxBy26 fxAg26 fxZe26 fxSl26 fxAr26 fxPl26 fxSz27 fxBy27 fxAg27 fxZe27 fxSl27 fxAr27 fxFi27x0 fxFi27x1 fxFi27x2 fxFi27x3 fxFi27x4 fxFi27x5 fxFi27x6 fxPl27 fxSz28 fxBy28 fxAg28 fxZe28 fxSl28 fxAr28 fxFi28x0 fxFi28x1 fxFi28x2 fxFi28x3 fxFi28x4 fxFi28x5 fxFi28x6 fxPl28 fxSz29 fxBy29 fxAg29 fxZe29 fxSl29 fxAr29 fxPl29 fxSz44 fxBy44 fxAg44 fxZe44 fxSl44 fxAr44 fxPl44 fxSz45 fxBy45 fxAg45 fxZe45 fxSl45 fxAr45 fxPl45 fxSz52 fxBy52 fxAg52 fxZe52 fxSl52 fxAr52 fxPl52 fxSz54 fxBy54 fxAg54 fxZe54 fxSl54 fxAr54 fxFi54x0 fxFi54x1 fxPl54 fxSz55 fxBy55 fxAg55 fxZe55 fxSl55 fxAr55 fxFi55x0 fxFi55x1 fxPl55 fxSz56 fxBy56 fxAg56 fxZe56 fxSl56 fxAr56 fxPl56 fxSz60 fxBy60 fxAg60 fxZe60 fxSl60 fxAr60 fxPl60 fxSz61 fxBy61 fxAg61 fxZe61 fxSl61 fxAr61 fxPl61 fxSz62 fxBy62 fxAg62 fxZe62 fxSl62 fxAr62 fxFi62x0 fxFi62x1 fxPl62 fxSz63 fxBy63 fxAg63 fxZe63 fxSl63 fxAr63 fxFi63x0 fxFi63x1 fxPl63 fxSz76 fxBy76 fxAg76 fxZe76 fxSl76 fxAr76 fxPl76 fxSz83 fxBy83 fxAg83 fxZe83 fxSl83 fxAr83 fxFi83x0 fxFi83x1 fxFi83x2 fxPl83 fxSz84 fxBy84 fxAg84 fxZe84 fxSl84 fxAr84 fxFi84x0 fxFi84x1 fxFi84x2 fxPl84 fxSz99 fxBy99 fxAg99 fxZe99 fxSl99 fxAr99 fxPl99 fxSz106 fxBy106 fxAg106 fxZe106 fxSl106 fxAr106 fxPl106 fxSz107 fxBy107 fxAg107 fxZe107 fxSl107 fxAr107 fxFi107x0 fxPl107 fxSz113 fxBy113 fxAg113 fxZe113 fxSl113 fxAr113 fxPl113 fxSz118 fxBy118 fxAg118 fxZe118 fxSl118 fxAr118 fxPl118 fxEq28 fxEq55 fxEq56 fxEq84 fxCv2x2 fxCv2x3 fxCv2x5 fxCv2x12 fxCv2x21 fxCv2x29 fxCv2x45 fxCv3x2 fxCv3x3 fxCv3x5 fxCv3x12 fxCv3x21 fxCv3x29 fxCv3x45 fxCv5x2 fxCv5x3 fxCv5x5 fxCv5x12 fxCv5x21 fxCv5x29 fxCv5x45 fxCv12x2 fxCv12x3 fxCv12x5 fxCv12x12 fxCv12x21 fxCv12x29 fxCv12x45 fxCv21x2 fxCv21x3 fxCv21x5 fxCv21x12 fxCv21x21 fxCv21x29 fxCv21x45 fxCv29x2 fxCv29x3 fxCv29x5 fxCv29x12 fxCv29x21 fxCv29x29 fxCv29x45 fxCv45x2 fxCv45x3 fxCv45x5 fxCv45x12 fxCv45x21 fxCv45x29 fxCv45x45 fxEb4 fxNb4 fxLt9 fxLn22 fxNe22 fxNn22 fxOe22 fxOn22 fxXe22 fxXn22 fxLn44 fxNe44 fxNn44 fxOe44 fxOn44 fxXe44 fxXn44 fxLn52 fxNe52 fxNn52 fxOe52 fxOn52 fxXe52 fxXn52 fxLn60 fxNe60 fxNn60 fxOe60 fxOn60 fxXe60 fxXn60 fxLn61 fxNe61 fxNn61 fxOe61 fxOn61 fxXe61 fxXn61 fxLn76 fxNe76 fxNn76 fxOe76 fxOn76 fxXe76 fxXn76 fxFn3 fxFm3 fxFb3 fxFi3 fxFj3 fxFn4 fxFm4 fxFb4 fxFi4 fxFj4 fxFn5 fxFm5 fxFb5 fxFi5 fxFj5 fxFn6 fxFm6 fxFb6 fxFi6 fxFj6 fxFn7 fxFm7 fxFb7 fxFi7 fxFj7 fxFn8 fxFm8 fxFb8 fxFi8 fxFj8 fxFn9 fxFm9 fxFb9 fxFi9 fxFj9 fxFn10 fxFm10 fxFb10 fxFi10 fxFj10 fxFn11 fxFm11 fxFb11 fxFi11 fxFj11 fxFn12 fxFm12 fxFb12 fxFi12 fxFj12 fxFn13 fxFm13 fxFb13 fxFi13 fxFj13 fxFn14 fxFm14 fxFb14 fxFi14 fxFj14 fxFn15 fxFm15 fxFb15 fxFi15 fxFj15 fxFn16 fxFm16 fxFb16 fxFi16 fxFj16 fxFn17 fxFm17 fxFb17 fxFi17 fxFj17 fxFn18 fxFm18 fxFb18 fxFi18 fxFj18 fxFn19 fxFm19 fxFb19 fxFi19 fxFj19 fxFn20 fxFm20 fxFb20 fxFi20 fxFj20 fxFn21 fxFm21 fxFb21 fxFi21 fxFj21 fxFn22 fxFm22 fxFb22 fxFi22 fxFj22 fxFn23 fxFm23 fxFb23 fxFi23 fxFj23 fxFn24 fxFm24 fxFb24 fxFi24 fxFj24 fxFn25 fxFm25 fxFb25 fxFi25 fxFj25 fxFn26 fxFm26 fxFb26 fxFi26 fxFj26 fxFn27 fxFm27 fxFb27 fxFi27 fxFj27 fxFn28 fxFm28 fxFb28 fxFi28 fxFj28 fxFn29 fxFm29 fxFb29 fxFi29 fxFj29 fxFn30 fxFm30 fxFb30 fxFi30 fxFj30 fxFn31 fxFm31 fxFb31 fxFi31 fxFj31 fxFn32 fxFm32 fxFb32 fxFi32 fxFj32 fxFn33 fxFm33 fxFb33 fxFi33 fxFj33 fxFn34 fxFm34 fxFb34 fxFi34 fxFj34 fxFn35 fxFm35 fxFb35 fxFi35 fxFj35 fxFn36 fxFm36 fxFb36 fxFi36 fxFj36 fxFn37 fxFm37 fxFb37 fxFi37 fxFj37 fxFn38 fxFm38 fxFb38 fxFi38 fxFj38 fxFn39 fxFm39 fxFb39 fxFi39 fxFj39 fxFn40 fxFm40 fxFb40 fxFi40 fxFj40 fxFn41 fxFm41 fxFb41 fxFi41 fxFj41 fxFn42 fxFm42 fxFb42 fxFi42 fxFj42 fxFn43 fxFm43 fxFb43 fxFi43 fxFj43 fxFn44 fxFm44 fxFb44 fxFi44 fxFj44 fxFn45 fxFm45 fxFb45 fxFi45 fxFj45 fxFn46 fxFm46 fxFb46 fxFi46 fxFj46 fxFn47 fxFm47 fxFb47 fxFi47 fxFj47 fxFn48 fxFm48 fxFb48 fxFi48 fxFj48 fxFn49 fxFm49 fxFb49 fxFi49 fxFj49 fxFn50 fxFm50 fxFb50 fxFi50 fxFj50 fxFn51 fxFm51 fxFb51 fxFi51 fxFj51 fxFn52 fxFm52 fxFb52 fxFi52 fxFj52 fxFn53 fxFm53 fxFb53 fxFi53 fxFj53 fxFn54 fxFm54 fxFb54 fxFi54 fxFj54 fxFn55 fxFm55 fxFb55 fxFi55 fxFj55 fxFn56 fxFm56 fxFb56 fxFi56 fxFj56 fxFn57 fxFm57 fxFb57 fxFi57 fxFj57 fxFn58 fxFm58 fxFb58 fxFi58 fxFj58 fxFn59 fxFm59 fxFb59 fxFi59 fxFj59 fxFn60 fxFm60 fxFb60 fxFi60 fxFj60
attribute [local simp] Ln.eta Ln.cold Ln.mapM Ln.mapMc Ln.view Ln.viewc Ln.hotR Ln.ren Ln.renc Ln.low Ln.tau Ln.tauc Ln.bare Ln.flat Ln.flat1 Ln.mapMt Ln.mapMd Ln.coldt Ln.coldd Ln.hotRt Ln.hotRd
attribute [local simp] Od.eta Od.cold Od.mapM Od.mapMc Od.view Od.viewc Od.hotR Od.ren Od.renc Od.low Od.tau Od.tauc Od.bare Od.flat Od.flat1 Od.mapMt Od.mapMd Od.coldt Od.coldd Od.hotRt Od.hotRd
attribute [local simp] Cpu.eta Cpu.dec_row Cpu.dec_hrow Cpu.cold Cpu.hcold Cpu.mapM Cpu.mapMc Cpu.hmapM Cpu.hmapMc Cpu.view Cpu.viewc Cpu.hview Cpu.hviewc Cpu.hotR Cpu.ren Cpu.renc Cpu.low Cpu.hlow
def srvN : Nat → Cpu → Cpu
  | 0, c => c
  | j + 1, c => srv1 (srvN j c)
theorem srvN_orders (j : Nat) (c : Cpu) : (srvN j c).orders = c.orders.drop j := by
  induction j with
  | zero => rfl
  | succ j ih =>
    simp only [srvN, srv1]
    split
    · rename_i h
      rw [h]
      rw [ih] at h
      rw [List.drop_eq_nil_iff] at h
      rw [List.drop_eq_nil_of_le (by omega)]
    · rename_i o O h
      rw [ih] at h
      rw [← List.drop_drop, h]; rfl
theorem srvN_srvd (j : Nat) (c : Cpu) : srvd (srvN j c) = srvd c := by
  induction j with
  | zero => rfl
  | succ j ih => simp only [srvN, srvd_srv1, ih]
theorem srvN_all (c : Cpu) : srvN c.orders.length c = srvd c := by
  rw [← srvN_srvd c.orders.length c]
  have h := srvN_orders c.orders.length c
  rw [List.drop_length] at h
  generalize srvN c.orders.length c = x at h
  obtain ⟨L, O⟩ := x
  simp only at h
  subst h
  rfl
theorem srvN_ok {c : Cpu} (h : CpuOk c) (j : Nat) : CpuOk (srvN j c) := by
  induction j with
  | zero => exact h
  | succ j ih => exact ih.srv1
def svS (l : List Cpu) (k : Nat) : List Cpu := (l.take k).map srvd ++ l.drop k
def svT (l : List Cpu) (k j : Nat) : List Cpu := (svS l k).set k (srvN j (cpuAt l k))
theorem svS_len (l : List Cpu) (k : Nat) : (svS l k).length = l.length := by simp [svS]; omega
theorem svT_len (l : List Cpu) (k j : Nat) : (svT l k j).length = l.length := by simp [svT, svS_len]
theorem svS_get {l : List Cpu} {k : Nat} (hk : k < l.length) : (svS l k)[k]? = some l[k] := by
  unfold svS
  rw [List.getElem?_append_right (by simp; omega)]
  simp [Nat.min_eq_left (Nat.le_of_lt hk), hk]
theorem svT_zero {l : List Cpu} {k : Nat} (hk : k < l.length) : svT l k 0 = svS l k := by
  unfold svT srvN
  rw [cpuAt_nat hk]
  have h := svS_get hk
  rw [List.getElem?_eq_getElem (by rw [svS_len]; exact hk)] at h
  rw [← Option.some.inj h, List.set_getElem_self]
theorem svT_last {l : List Cpu} {k : Nat} (hk : k < l.length) : svT l k l[k].orders.length = svS l (k + 1) := by
  unfold svT
  rw [cpuAt_nat hk, srvN_all]
  unfold svS
  have hl : ((l.take k).map srvd).length = k := by simp; omega
  rw [List.set_append_right _ _ (by omega), hl, Nat.sub_self, List.drop_eq_getElem_cons hk, List.set_cons_zero, List.take_succ_eq_append_getElem hk, List.map_append, List.append_assoc]
  rfl
theorem svS_ok {l : List Cpu} (h : tlCheck l = 0) (k : Nat) : tlCheck (svS l k) = 0 := by
  rw [tlOk_iff] at h ⊢
  obtain ⟨h1, h2, h3⟩ := h
  rw [svS_len]
  refine ⟨h1, h2, ?_⟩
  intro c hc
  unfold svS at hc
  rcases List.mem_append.1 hc with hc | hc
  · obtain ⟨x, hx, rfl⟩ := List.mem_map.1 hc
    exact (h3 x (List.mem_of_mem_take hx)).srvd
  · exact h3 c (List.mem_of_mem_drop hc)
theorem svT_ok {l : List Cpu} (h : tlCheck l = 0) {k : Nat} (hk : k < l.length) (j : Nat) : tlCheck (svT l k j) = 0 := by
  have h0 := svS_ok h k
  rw [tlOk_iff] at h0 h ⊢
  obtain ⟨h1, h2, h3⟩ := h0
  rw [svT_len]
  rw [svS_len] at h1 h2
  refine ⟨h1, h2, ?_⟩
  intro c hc
  rcases List.mem_or_eq_of_mem_set hc with hc | hc
  · exact h3 c hc
  · subst hc
    rw [cpuAt_nat hk]
    exact srvN_ok (h.2.2 l[k] (List.getElem_mem hk)) j
theorem sv_srvE {l : List Cpu} (h : tlCheck l = 0) {k : Nat} (hk : k < l.length) (j : Nat) :
    srvE (svT l k j) k = .tup [.fsl true 2 ((svT l k (j + 1)).map Cpu.hrow), .v (.bool (decide (j < l[k].orders.length))), .v (.int .i64 0)] := by
  have hc : tlChk (svT l k j) k = 0 := tlChk_iff.2 ⟨svT_ok h hk j, by omega, by rw [svT_len]; omega⟩
  have hat : cpuAt (svT l k j) k = srvN j l[k] := by
    rw [cpuAt_nat (by rw [svT_len]; exact hk)]
    simp only [svT, List.getElem_set_self, cpuAt_nat hk]
  unfold srvE
  rw [if_pos hc, hat, srvN_orders]
  have e1 : (svT l k j).set (k : Int).toNat (srv1 (srvN j l[k])) = svT l k (j + 1) := by
    simp only [svT, Int.toNat_natCast, List.set_set, srvN, cpuAt_nat hk]
  have hb : (!(l[k].orders.drop j).isEmpty) = decide (j < l[k].orders.length) := by rw [Bool.eq_iff_iff]; simp [List.isEmpty_iff]
  rw [e1, hb]
def srvAll (l : List Cpu) : List Cpu := l.map srvd
theorem srvAll_len (l : List Cpu) : (srvAll l).length = l.length := by simp [srvAll]
theorem cpu_cold (l : List Cpu) : Lss (.fsl true 2 (l.map Cpu.hrow)) (.fsl false 2 (l.map Cpu.row)) := by
  have e : cold (.fsl true 2 (l.map Cpu.hrow)) = .fsl false 2 (l.map Cpu.row) := by simp [cold]
  rw [← e]
  exact @Lss.cold (.fsl true 2 (l.map Cpu.hrow))
theorem serve_inl : InlOk Try.prog 24 (passI (argM (cSl rCpu) fun l => finM (if tlCheck l = 0 then some (.tup [.fsl false 2 ((srvAll l).map Cpu.row), .v (.bool true)]) else none))) := by
  refine pass_1 Try.func24 rfl ?_
  intro l r hr H
  by_cases hc : tlCheck l = 0
  case neg => rw [if_neg hc] at hr; cases hr
  rw [if_pos hc] at hr
  simp only [Option.some.injEq] at hr
  subst hr
  refine bodyE_of (noOrc_ok.withP tlServe_pure) fxMix (by kernel_rfl) (by simp [Try.ntmps24]) ?_
  intro C cP cI cN cD cF cA
  have cp0 := orcP tlServe_pure (C := C) (by rw [cP]; rfl)
  replace cI : C.inl = fun _ => false := cI
  replace cD : C.dyn = fun _ => [] := cD
  clear cP cN cF cA
  simp [Try.ntmps24, Try.results24, cSl, cp0, cI, cD, rCpu]
  have hl4 := tlCheck_len hc
  refine loop_forE l.length (fun k (_ : Unit) => ([(0, .fsl false 2 ((svS l k).map Cpu.row)), (10, .v (.int .i64 l.length)), (11, .v (.int .i64 k))], H)) (fun k _ => True) () (by rintro k _ h _; omega) trivial ?_ ?_ ?_
  · refine .env ?_
    simp [svS]
    done
  · rintro k _ hk _ hw
    simp [Try.ntmps24, Try.results24, cSl, cp0, cI, cD, hk, hw]
    have hm4 : l[k].orders.length ≤ 4 := (cpuE_len ((tlCheck_iff.1 hc).2.2 l[k] (List.getElem_mem hk))).2
    refine loop_forE l[k].orders.length (fun j (_ : Unit) => ([(0, .fsl false 2 ((svT l k j).map Cpu.row)), (4, .v (.int .i64 k)), (5, .v (.int .i64 j)), (10, .v (.int .i64 l.length)), (11, .v (.int .i64 k))], H)) (fun j _ => True) () (by rintro k _ h _; omega) trivial ?_ ?_ ?_
    · refine .env ?_
      simp [svT_zero hk]
    · rintro j _ hj _ hwj
      have hs := sv_srvE hc hk j
      have hd : decide (j < l[k].orders.length) = true := by simpa using hj
      rw [hd] at hs
      have hj4 : ¬ (4 : Int) < j := by omega
      simp [Try.ntmps24, Try.results24, cSl, cp0, cI, cD, hwj, hs, hj4, rCpu, cpuDec, rLn, lnDec, rOd, odDec]
      refine ⟨(), trivial, .trans (.env ?_) (.slotL (t := 0) (r := .fsl false 2 ((svT l k (j + 1)).map Cpu.row)) (cpu_cold _))⟩
      simp [look]
      done
    · rintro _ _
      have hs := sv_srvE hc hk l[k].orders.length
      have hd : decide (l[k].orders.length < l[k].orders.length) = false := by simp
      rw [hd] at hs
      have hj4 : ¬ (4 : Int) < l[k].orders.length := by omega
      simp [Try.ntmps24, Try.results24, cSl, cp0, cI, cD, hs, hj4, hw, rCpu, cpuDec, rLn, lnDec, rOd, odDec]
      refine ⟨(), trivial, .env ?_⟩
      simp [svT_last hk]
  · rintro _ _
    simp [Try.ntmps24, Try.results24, cSl, cp0, cI, cD]
    refine .env ?_
    simp [svS, srvAll]
end Go.Proofs.Ytdhpgdfjogklaaa
namespace Go.Proofs.Ytdhpgdfjogklaaa
open Go.AI
theorem shots_get (b : Nat) (o : Od) (j : Nat) (l : List Cpu) (i : Nat) : (shots b o j l)[i]? = (l[i]?).map (shotC b (j + i) o) := by
  induction l generalizing i j with
  | nil => simp [shots]
  | cons c l ih =>
    cases i with
    | zero => simp [shots]
    | succ i =>
      simp only [shots, List.getElem?_cons_succ]
      rw [ih, show j + 1 + i = j + (i + 1) by omega]
theorem wtB_false {b j : Nat} {l : List Cpu} (h : wtB b j l = false) : ∀ (i : Nat) (hi : i < l.length), j + i ≠ b → l[i].orders.length ≠ 4 := by
  induction l generalizing j with
  | nil => intro i hi; simp at hi
  | cons c l ih =>
    simp only [wtB, Bool.or_eq_false_iff, Bool.and_eq_false_iff] at h
    intro i hi hne
    cases i with
    | zero =>
      rcases h.1 with h1 | h1
      · simp at h1; omega
      · simpa using h1
    | succ i => exact ih h.2 i (by simpa using hi) (by omega)
theorem shoot_err {l : List Cpu} {b e : Int} {o : Od} (h : tlShoot l b o = .error e) : e ≠ 0 := by
  unfold tlShoot at h
  split at h
  · split at h
    · split at h
      · cases h; decide
      · cases h
    · cases h; decide
  · rename_i h0; cases h; exact h0
theorem shoot_ok {l x : List Cpu} {b : Int} {o : Od} (h : tlShoot l b o = .ok x) : tlCheck l = 0 ∧ okO o = true ∧ tlCheck x = 0 ∧ x.length = l.length ∧ ∃ k : Nat, k < l.length ∧ ∀ (i : Nat) (hi : i < l.length), x[i]? = some (shotC k i o l[i]) := by
  unfold tlShoot at h
  split at h
  case isFalse => cases h
  rename_i h0
  split at h
  case isFalse => cases h
  rename_i h1
  split at h
  case isTrue => cases h
  rename_i h2
  simp only [Bool.not_eq_true] at h2
  cases h
  obtain ⟨g0, g1, g2⟩ := tlChk_iff.1 h0
  obtain ⟨k, rfl⟩ := Int.eq_ofNat_of_zero_le g1
  have hget : ∀ (i : Nat) (hi : i < l.length), (shots k o 0 l)[i]? = some (shotC k i o l[i]) := by
    intro i hi
    rw [shots_get, List.getElem?_eq_getElem hi, Nat.zero_add]; rfl
  refine ⟨g0, h1, ?_, shots_len _ _ _ _, k, by omega, hget⟩
  obtain ⟨a1, a2, a3⟩ := tlOk_iff.1 g0
  rw [tlOk_iff]
  simp only [Int.toNat_natCast]
  rw [shots_len]
  refine ⟨a1, a2, ?_⟩
  intro c hc
  obtain ⟨i, hi, rfl⟩ := List.getElem_of_mem hc
  rw [shots_len] at hi
  have hh := hget i hi
  rw [List.getElem?_eq_getElem (by rw [shots_len]; exact hi)] at hh
  rw [Option.some.inj hh]
  obtain ⟨b1, b2, b3, b4⟩ := a3 l[i] (List.getElem_mem hi)
  unfold shotC
  split
  · exact ⟨Nat.le_trans (forg_sub _ _).length_le b1, b2, b3.sub (forg_sub _ _), b4⟩
  · rename_i hne
    have h4 := wtB_false h2 i hi (by simpa using hne)
    refine ⟨b1, by simp only [List.length_append, List.length_cons, List.length_nil]; omega, b3, ?_⟩
    intro y hy
    rcases List.mem_append.1 hy with hy | hy
    · exact b4 y hy
    · simp at hy; subst hy; exact h1
/-- nobody will remember a page, once all is served -/
def Gone (o : Od) (p : Int) (l : List Cpu) : Prop := ∀ c ∈ l, o ∈ c.orders ∨ lkL c.lines o.space p = none
theorem shoot_gone {l x : List Cpu} {b : Int} {o : Od} (h : tlShoot l b o = .ok x) {p : Int} (hp : o.page < 0 ∨ o.page = p) : Gone o p x := by
  obtain ⟨_, _, _, hl, k, _, hg⟩ := shoot_ok h
  intro c hc
  obtain ⟨i, hi, rfl⟩ := List.getElem_of_mem hc
  have hh := hg i (by omega)
  rw [List.getElem?_eq_getElem hi] at hh
  rw [Option.some.inj hh]
  unfold shotC
  split
  · exact .inr (forg_gone ⟨rfl, hp⟩)
  · exact .inl (by simp)
theorem gone_fill {l x : List Cpu} {o : Od} {c s p w : Int} (hg : Gone o o.page l) (h : tlFill l c s p w = .ok x) (hne : ¬ (s = o.space ∧ p = o.page)) : Gone o o.page x := by
  obtain ⟨_, _, k, hk, rfl, rfl, _⟩ := fill_ok h
  intro y hy
  rcases List.mem_or_eq_of_mem_set hy with hy | hy
  · exact hg y hy
  · subst hy
    rcases hg l[k] (List.getElem_mem hk) with h1 | h1
    · exact .inl h1
    · exact .inr (fillL_none h1 hne)
theorem srvd_gone {o : Od} {p : Int} {c : Cpu} (hp : o.page < 0 ∨ o.page = p) (h : o ∈ c.orders ∨ lkL c.lines o.space p = none) : lkL (srvd c).lines o.space p = none := by
  rcases h with h | h
  · exact forgs_gone h ⟨rfl, hp⟩
  · exact lk_sub (forgs_sub _ _) h
theorem srvd_check {l : List Cpu} (h : tlCheck l = 0) : tlCheck (l.map srvd) = 0 := by
  rw [tlOk_iff] at h ⊢
  refine ⟨by simpa using h.1, by simpa using h.2.1, ?_⟩
  intro c hc
  obtain ⟨x, hx, rfl⟩ := List.mem_map.1 hc
  exact (h.2.2 x hx).srvd
/-- nobody remembers it -/
theorem gone_look {l : List Cpu} {o : Od} {p : Int} (hc : tlCheck l = 0) (hp : o.page < 0 ∨ o.page = p) (hg : Gone o p l) (i : Nat) (hi : i < l.length) : tlChk (l.map srvd) i = 0 ∧ tlLookB (l.map srvd) i o.space p = false := by
  have h1 : tlChk (l.map srvd) i = 0 := tlChk_iff.2 ⟨srvd_check hc, by omega, by simpa using hi⟩
  refine ⟨h1, ?_⟩
  rw [lookB_eq, if_pos h1, cpuAt_nat (by simpa using hi), List.getElem_map, srvd_gone hp (hg _ (List.getElem_mem hi))]
  rfl
theorem srvd_done {l : List Cpu} (hc : tlCheck l = 0) (o : Od) : tlDoneB (l.map srvd) o = true := by
  unfold tlDoneB
  rw [if_pos (srvd_check hc)]
  simp [srvd]
theorem shoot_early {l x : List Cpu} {b : Int} {o : Od} (h : tlShoot l b o = .ok x) (h1 : 1 < x.length) : tlDoneB x o = false := by
  obtain ⟨_, _, hc, hl, k, _, hg⟩ := shoot_ok h
  unfold tlDoneB
  rw [if_pos hc]
  simp only [Bool.not_eq_false', List.any_eq_true, decide_eq_true_eq]
  have hi : ∃ i, i < l.length ∧ i ≠ k := by
    by_cases e : k = 0
    · exact ⟨1, by omega, by omega⟩
    · exact ⟨0, by omega, by omega⟩
  obtain ⟨i, hi, hne⟩ := hi
  refine ⟨_, List.mem_of_getElem? (hg i hi), ?_⟩
  unfold shotC
  rw [if_neg hne]
  simp
theorem shoot_keeps {l x : List Cpu} {b : Int} {o : Od} (h : tlShoot l b o = .ok x) {c s p : Int} (hc : tlChk l c = 0) (ho : ¬ (s = o.space ∧ (o.page < 0 ∨ o.page = p))) (hl : ∀ y ∈ l, ∀ q ∈ y.orders, ¬ (q.space = s ∧ (q.page < 0 ∨ q.page = p))) :
    tlChk (x.map srvd) c = 0 ∧ tlLookW (x.map srvd) c s p = tlLookW l c s p ∧ tlLookB (x.map srvd) c s p = tlLookB l c s p := by
  obtain ⟨hck, _, hcx, hxl, k, _, hg⟩ := shoot_ok h
  have h1 : tlChk (x.map srvd) c = 0 := by rw [chk_same hck (srvd_check hcx) (by simpa using hxl)]; exact hc
  obtain ⟨_, g1, g2⟩ := tlChk_iff.1 hc
  obtain ⟨i, rfl⟩ := Int.eq_ofNat_of_zero_le g1
  have hi : i < l.length := by omega
  have hat : lkL (cpuAt (x.map srvd) i).lines s p = lkL (cpuAt l i).lines s p := by
    rw [cpuAt_nat (by simp; omega), cpuAt_nat hi, List.getElem_map]
    have hh := hg i hi
    rw [List.getElem?_eq_getElem (by omega)] at hh
    rw [Option.some.inj hh]
    have hq : ∀ q ∈ l[i].orders, ¬ (s = q.space ∧ (q.page < 0 ∨ q.page = p)) := fun q hq hh => hl _ (List.getElem_mem hi) q hq ⟨hh.1.symm, hh.2⟩
    unfold shotC
    split
    · show lkL (forgs _ _) s p = _
      rw [forgs_keep hq]
      exact forg_keep ho
    · show lkL (forgs _ _) s p = _
      rw [forgs_keep]
      intro q hq2
      rcases List.mem_append.1 hq2 with hq2 | hq2
      · exact hq q hq2
      · simp at hq2; subst hq2; exact ho
  refine ⟨h1, ?_, ?_⟩
  · rw [lookW_eq, lookW_eq, if_pos h1, if_pos hc, hat]
  · rw [lookB_eq, lookB_eq, if_pos h1, if_pos hc, hat]
end Go.Proofs.Ytdhpgdfjogklaaa
