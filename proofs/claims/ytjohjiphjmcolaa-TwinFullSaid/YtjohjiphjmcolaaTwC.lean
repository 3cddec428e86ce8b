/- Package twin: New, Most, apart. -/
import Derived.Test.YtjohjiphjmcolaaTwB
namespace Go.Proofs.Ytjohjiphjmcolaa
open Go.AI
set_option maxHeartbeats 2000000
set_option maxRecDepth 100000
set_option linter.unusedSimpArgs false
set_option linter.unusedVariables false
attribute [local simp] wpA wpX RunA RunD runF foot footP footB idsA bare apart runL step1 gsel_f gsel_t gsel_s res_same res_and1 res_and2 res_and3 res_and4 res_and5 res_and6 res_false res_true res_v res_ptr res_fptr res_osl res_xsl soft aAppendZ aCap ovlI ovlJ res_fsl res_esl res_agg res_tup res_fn res_junk res_anyb aPick hk imp_left iteV dstOk guardOk astep astepE AI.ev AI.look AI.put envOf aBox cellsOf allOne allOneA oneA Value.oneCell' Value.cells newObj' aFieldAddr aLoad obj readAt thenA blockA condA retA resA tupA view hot hotC hotR depthV cAgg cInt cBool mkAgg allV aAlloc aBuild fillA writeAt aStore isAggA aField idx aIndexAddr aIndex bnd aSlice aExtract aLen aBuiltin aCall isStatic eqAgg eqTy eqC ev_add ev_sub ev_mul ev_quo ev_rem ev_and ev_or ev_xor ev_andNot ev_shl ev_shr ev_eql ev_neq ev_lss ev_leq ev_gtr ev_geq ev_agg w64 wu32 wu8 ev_not ev_neg Cod.plain RCod.plain argM finM cold coldC coldR goInt intDec boolDec aggDec Weaker heapW lowA lowC Again slDec undef aBuildSlice setRows aAppend rowsOf aMakeSlice aClear aCopy softer_self softer_nil valsOf ev_min2 ev_max2 hotR_set hotR_append take_map_set irow_cold irow_mapM irow_mapMc irow_view irow_viewc irow_hotR irow_ren irow_renc irow_low WeakT heapT thOf ren renC AgainT NextF NextT fnDec cFn rNil selfLt natLt0 natLt1 getLastMap frame0 frame1 own0 own1 argG finG tau tauI tauO tauC bareA bareC bareH irow_tau irow_tauc irow_bare irow_flat irow_bareR ownA_nil ownT_nil ownA_c ownT_c ownA_s ownT_s takeMapLen footC plainA noId noIdC cloneF frame0F frame1F insertF replaceI replaceF cellDec rCell fpDec cFp rTwo deleteF RunR RunE runFT footAt hotR_cat tmodN fxSz2 fxBy2 fxAg2 fxZe2 fxSl2 fxAr2 fxPl2 fxSz3 fxBy3 fxAg3 fxZe3 fxSl3 fxAr3 fxPl3 fxSz4 fxBy4 fxAg4 fxZe4 fxSl4 fxAr4 fxPl4 fxSz5 fxBy5 fxAg5 fxZe5 fxSl5 fxAr5 fxPl5 fxSz9 fxBy9 fxAg9 fxZe9 fxSl9 fxAr9 fxPl9 fxSz12 fxBy12 fxAg12 fxZe12 fxSl12 fxAr12 fxPl12 fxSz13 fxBy13 fxAg13 fxZe13 fxSl13 fxAr13 fxFi13x0 fxFi13x1 fxPl13 fxSz21 fxBy21 fxAg21 fxZe21 fxSl21 fxAr21 fxPl21 fxSz22 fxBy22 fxAg22 fxZe22 fxSl22 fxAr22 fxPl22 fxSz23 fxBy23 fxAg23 fxZe23 fxSl23 fxAr23 fxFi23x0 fxFi23x1 fxFi23x2 fxPl23 fxSz24 fxBy24 fxAg24 fxZe24 fxSl24 fxAr24 fxFi24x0 fxFi24x1 fxFi24x2 fxPl24 fxSz25 fxBy25 fxAg25 fxZe25 fxSl25 fxAr25 fxPl25 fxSz42 fxBy42 fxAg42 fxZe42 fxSl42 fxAr42 fxPl42 fxSz43 fxBy43 fxAg43 fxZe43 fxSl43 fxAr43 fxFi43x0 fxFi43x1 fxPl43 fxSz44 fxBy44 fxAg44 fxZe44 fxSl44 fxAr44 fxFi44x0 fxFi44x1 fxPl44 fxSz48 fxBy48 fxAg48 fxZe48 fxSl48 fxAr48 fxFi48x0 fxFi48x1 fxPl48 fxSz49 fxBy49 fxAg49 fxZe49 fxSl49 fxAr49 fxFi49x0 fxFi49x1 fxPl49 fxSz53 fxBy53 fxAg53 fxZe53 fxSl53 fxAr53 fxPl53 fxSz59 fxBy59 fxAg59 fxZe59 fxSl59 fxAr59 fxPl59 fxSz68 fxBy68 fxAg68 fxZe68 fxSl68 fxAr68 fxPl68 fxSz85 fxBy85 fxAg85 fxZe85 fxSl85 fxAr85 fxPl85 fxSz91 fxBy91 fxAg91 fxZe91 fxSl91 fxAr91 fxPl91 fxSz92 fxBy92 fxAg92 fxZe92 fxSl92 fxAr92 fxFi92x0 fxPl92 fxSz95 fxBy95 fxAg95 fxZe95 fxSl95 fxAr95 fxPl95 fxSz99 fxBy99 fxAg99 fxZe99 fxSl99 fxAr99 fxPl99 fxSz104 fxBy104 fxAg104 fxZe104 fxSl104 fxAr104 fxPl104 fxEq24 fxEq49 fxEq53 fxCv2x2 fxCv2x3 fxCv2x5 fxCv2x12 fxCv2x21 fxCv2x25 fxCv2x95 fxCv3x2 fxCv3x3 fxCv3x5 fxCv3x12 fxCv3x21 fxCv3x25 fxCv3x95 fxCv5x2 fxCv5x3 fxCv5x5 fxCv5x12 fxCv5x21 fxCv5x25 fxCv5x95 fxCv12x2 fxCv12x3 fxCv12x5 fxCv12x12 fxCv12x21 fxCv12x25 fxCv12x95 fxCv21x2 fxCv21x3 fxCv21x5 fxCv21x12 fxCv21x21 fxCv21x25 fxCv21x95 fxCv25x2 fxCv25x3 fxCv25x5 fxCv25x12 fxCv25x21 fxCv25x25 fxCv25x95 fxCv95x2 fxCv95x3 fxCv95x5 fxCv95x12 fxCv95x21 fxCv95x25 fxCv95x95 fxEb4 fxNb4 fxLt9 fxLn22 fxNe22 fxNn22 fxLn42 fxNe42 fxNn42 fxLn59 fxNe59 fxNn59 fxLn68 fxNe68 fxNn68 fxFn3 fxFm3 fxFb3 fxFi3 fxFj3 fxFn4 fxFm4 fxFb4 fxFi4 fxFj4 fxFn5 fxFm5 fxFb5 fxFi5 fxFj5 fxFn6 fxFm6 fxFb6 fxFi6 fxFj6 fxFn7 fxFm7 fxFb7 fxFi7 fxFj7 fxFn8 fxFm8 fxFb8 fxFi8 fxFj8 fxFn9 fxFm9 fxFb9 fxFi9 fxFj9 fxFn10 fxFm10 fxFb10 fxFi10 fxFj10 fxFn11 fxFm11 fxFb11 fxFi11 fxFj11 fxFn12 fxFm12 fxFb12 fxFi12 fxFj12 fxFn13 fxFm13 fxFb13 fxFi13 fxFj13 fxFn14 fxFm14 fxFb14 fxFi14 fxFj14 fxFn15 fxFm15 fxFb15 fxFi15 fxFj15 fxFn16 fxFm16 fxFb16 fxFi16 fxFj16 fxFn17 fxFm17 fxFb17 fxFi17 fxFj17 fxFn18 fxFm18 fxFb18 fxFi18 fxFj18 fxFn19 fxFm19 fxFb19 fxFi19 fxFj19 fxFn20 fxFm20 fxFb20 fxFi20 fxFj20 fxFn21 fxFm21 fxFb21 fxFi21 fxFj21 fxFn22 fxFm22 fxFb22 fxFi22 fxFj22 fxFn23 fxFm23 fxFb23 fxFi23 fxFj23 fxFn24 fxFm24 fxFb24 fxFi24 fxFj24 fxFn25 fxFm25 fxFb25 fxFi25 fxFj25 fxFn26 fxFm26 fxFb26 fxFi26 fxFj26 fxFn27 fxFm27 fxFb27 fxFi27 fxFj27 fxFn28 fxFm28 fxFb28 fxFi28 fxFj28 fxFn29 fxFm29 fxFb29 fxFi29 fxFj29 fxFn30 fxFm30 fxFb30 fxFi30 fxFj30 fxFn31 fxFm31 fxFb31 fxFi31 fxFj31 fxFn32 fxFm32 fxFb32 fxFi32 fxFj32 fxFn33 fxFm33 fxFb33 fxFi33 fxFj33 fxFn34 fxFm34 fxFb34 fxFi34 fxFj34 fxFn35 fxFm35 fxFb35 fxFi35 fxFj35 fxFn36 fxFm36 fxFb36 fxFi36 fxFj36 fxFn37 fxFm37 fxFb37 fxFi37 fxFj37 fxFn38 fxFm38 fxFb38 fxFi38 fxFj38 fxFn39 fxFm39 fxFb39 fxFi39 fxFj39 fxFn40 fxFm40 fxFb40 fxFi40 fxFj40 fxFn41 fxFm41 fxFb41 fxFi41 fxFj41 fxFn42 fxFm42 fxFb42 fxFi42 fxFj42 fxFn43 fxFm43 fxFb43 fxFi43 fxFj43 fxFn44 fxFm44 fxFb44 fxFi44 fxFj44 fxFn45 fxFm45 fxFb45 fxFi45 fxFj45 fxFn46 fxFm46 fxFb46 fxFi46 fxFj46 fxFn47 fxFm47 fxFb47 fxFi47 fxFj47 fxFn48 fxFm48 fxFb48 fxFi48 fxFj48 fxFn49 fxFm49 fxFb49 fxFi49 fxFj49 fxFn50 fxFm50 fxFn51 fxFm51 fxFb51 fxFi51 fxFj51 fxFn52 fxFm52 fxFb52 fxFi52 fxFj52 fxFn53 fxFm53 fxFn54 fxFm54 fxFb54 fxFi54 fxFj54 fxFn55 fxFm55 fxFb55 fxFi55 fxFj55 fxFn56 fxFm56 fxFb56 fxFi56 fxFj56 fxFn57 fxFm57 fxFb57 fxFi57 fxFj57 fxFn58 fxFm58 fxFb58 fxFi58 fxFj58
attribute [local simp] Rm.eta Rm.cold Rm.mapM Rm.mapMc Rm.view Rm.viewc Rm.hotR Rm.ren Rm.renc Rm.low Rm.tau Rm.tauc Rm.bare Rm.flat Rm.flat1 Rm.mapMt Rm.mapMd Rm.coldt Rm.coldd Rm.hotRt Rm.hotRd
attribute [local simp] Twn.eta Twn.dec_row Twn.dec_hrow Twn.cold Twn.hcold Twn.mapM Twn.mapMc Twn.hmapM Twn.hmapMc Twn.view Twn.viewc Twn.hview Twn.hviewc Twn.hotR Twn.ren Twn.renc Twn.low
def twE : Except Int Twn → AVal
  | .ok t => .tup [.agg t.hrow, .v (.int .i64 0)]
  | .error e => .v (.tuple #[.agg #[.int .i64 0, .slice none 0 0], .int .i64 e])
def twNew (o : Int) : Except Int Twn := if o < 0 ∨ 6 < o then .error 1 else .ok ⟨o, [⟨0, o⟩]⟩
theorem twNew_pure : PureOk Try.prog 29 (argM (cInt .i64) fun o => finM (some (twE (twNew o)))) := by
  refine pure1 Try.func29 rfl ?_
  rintro o r hr
  simp only [Option.some.injEq] at hr
  subst hr
  refine body_gen noOrc_ok fxMix (by kernel_rfl) (by simp [Try.ntmps29]) ?_
  intro C cP cI cN cD cF cA
  replace cI : C.inl = fun _ => false := cI
  replace cD : C.dyn = fun _ => [] := cD
  clear cP cN cF cA
  by_cases h1 : o < 0
  · simp [Try.ntmps29, Try.results29, cSl, cI, cD, twNew, twE, h1]
  · by_cases h2 : 6 < o
    · simp [Try.ntmps29, Try.results29, cSl, cI, cD, twNew, twE, h1, h2]
    · simp [Try.ntmps29, Try.results29, cSl, cI, cD, twNew, twE, h1, h2, Twn.hrow, Rm.row]
def sumP (l : List Rm) : Int := (l.map fun r => pw r.order).sum
def maxO (l : List Rm) : Int := l.foldl (fun b r => max b r.order) (-1)
theorem sumP_take {l : List Rm} {k : Nat} (hk : k < l.length) : sumP (l.take (k + 1)) = sumP (l.take k) + pw l[k].order := by
  unfold sumP
  rw [List.take_succ_eq_append_getElem hk, List.map_append, List.sum_append]; simp
theorem maxO_take {l : List Rm} {k : Nat} (hk : k < l.length) : maxO (l.take (k + 1)) = max (maxO (l.take k)) l[k].order := by
  unfold maxO
  rw [List.take_succ_eq_append_getElem hk, List.foldl_append]; rfl
theorem okl_sum {N : Int} : ∀ (l : List Rm) (e : Int), Okl N l → (∀ r ∈ l, e ≤ r.at_) → e ≤ pw N → sumP l ≤ pw N - e := by
  intro l
  induction l with
  | nil => intro e _ _ h; simp [sumP]; omega
  | cons r l ih =>
    intro e h1 h2 h4
    obtain ⟨f, t, ok⟩ := okl_cons.1 h1
    have := ih r.end_ ok (fun x hx => (t x hx).1) f.2.2.2.1
    have := h2 r (by simp)
    simp only [sumP, List.map_cons, List.sum_cons, Rm.end_] at *
    omega
theorem sumP_nn (l : List Rm) : 0 ≤ sumP l := by
  induction l with
  | nil => simp [sumP]
  | cons r l ih =>
    have := pw_pos r.order
    simp only [sumP, List.map_cons, List.sum_cons] at *
    omega
theorem okl_take {N : Int} {l : List Rm} (h : Okl N l) (k : Nat) : Okl N (l.take k) := ⟨fun r hr => h.1 r (List.mem_of_mem_take hr), h.2.sublist (List.take_sublist _ _)⟩
theorem twMost_pure : PureOk Try.prog 28 (argM (cAgg rTwn) fun t => finM (some (.v (if twCheck t = 0 then .tuple #[.int .i64 (maxO t.free), .int .i64 (sumP t.free), .int .i64 0] else .tuple #[.int .i64 0, .int .i64 0, .int .i64 (twCheck t)])))) := by
  refine pure1 Try.func28 rfl ?_
  rintro t r hr
  simp only [Option.some.injEq] at hr
  subst hr
  refine body_gen (noOrc_ok.withP twCheck_pure) fxMix (by kernel_rfl) (by simp [Try.ntmps28]) ?_
  intro C cP cI cN cD cF cA
  have cp0 := orcP twCheck_pure (C := C) (by rw [cP]; rfl)
  replace cI : C.inl = fun _ => false := cI
  replace cD : C.dyn = fun _ => [] := cD
  clear cP cN cF cA
  by_cases h0 : twCheck t = 0
  · obtain ⟨g1, g2, g3⟩ := twCheck_ok.1 h0
    obtain ⟨N, l⟩ := t
    simp only at g1 g2 g3
    have hl := okl_len g2 g3
    have pN := pw_le64 g2
    simp [Try.ntmps28, Try.results28, cSl, cp0, cI, cD, rTwn, twnDec, rRm, Twn.row, h0]
    refine loop_for l.length (fun k (_ : Unit) => ([(6, .v (.int .i64 (maxO (l.take k)))), (7, .v (.int .i64 (sumP (l.take k)))), (16, .fsl false 2 (l.map Rm.row)), (17, .v (.int .i64 l.length)), (18, .v (.int .i64 k))], [])) (fun k _ => True) () (by omega) trivial (by simp [maxO, sumP]) ?_ ?_
    · rintro k _ hk _ hw
      have f := g3.1 _ (List.getElem_mem hk)
      have hos := ishl_pw f.1 (by have := f.2.1; omega)
      have h1 := okl_sum (l.take (k + 1)) 0 (okl_take g3 _) (fun r hr => ((okl_take g3 (k + 1)).1 r hr).2.2.1) (by have := pw_pos N; omega)
      have h2 := sumP_nn (l.take k)
      have h3 := sumP_take hk
      have h4 := maxO_take hk
      have h5 := pw_pos l[k].order
      have w1 : IntKind.i64.wrap (sumP (l.take k) + pw l[k].order) = sumP (l.take k) + pw l[k].order := w64 (by omega) (by omega)
      have e1 : (if maxO (l.take k) < l[k].order then l[k].order else maxO (l.take k)) = max (maxO (l.take k)) l[k].order := by omega
      have e2 : (if l[k].order > maxO (l.take k) then l[k].order else maxO (l.take k)) = max (maxO (l.take k)) l[k].order := by omega
      simp [Try.ntmps28, Try.results28, cSl, cp0, cI, cD, hk, hw, Rm.row, f.1, hos, w1, h3, h4, e1, e2]
    · rintro _ _
      simp [Try.ntmps28, Try.results28, cSl, cp0, cI, cD]
  · simp [Try.ntmps28, Try.results28, cSl, cp0, cI, cD, rTwn, twnDec, rRm, Twn.row, h0]
def meetB (r x : Rm) : Bool := decide (x.at_ < r.at_ + pw r.order) && decide (r.at_ < x.at_ + pw x.order)
def okR (x : Rm) : Prop := 0 ≤ x.order ∧ x.order ≤ 6 ∧ 0 ≤ x.at_ ∧ x.at_ ≤ 64
instance (x : Rm) : Decidable (okR x) := by unfold okR; infer_instance
def rCapR : RCod Rm := rCell (cFp rRm)
theorem meets_pure : PureOk Try.prog 48 (argM (cAgg rRm) fun x => argM (cFp rRm) fun p => finM (if okR x ∧ okR p then some (.v (.bool (meetB p x))) else none)) := by
  refine pure2 Try.func48 rfl ?_
  rintro x p r hr
  by_cases hc : okR x ∧ okR p
  case neg => rw [if_neg hc] at hr; cases hr
  rw [if_pos hc] at hr
  simp only [Option.some.injEq] at hr
  subst hr
  refine body_gen noOrc_ok fxMix (by kernel_rfl) (by simp [Try.ntmps48]) ?_
  intro C cP cI cN cD cF cA
  replace cI : C.inl = fun _ => false := cI
  replace cD : C.dyn = fun _ => [] := cD
  clear cP cN cF cA
  obtain ⟨⟨x1, x2, x3, x4⟩, r1, r2, r3, r4⟩ := hc
  have h1 := ishl_pw x1 x2
  have h2 := ishl_pw r1 r2
  have p1 := pw_le64 x2
  have p2 := pw_le64 r2
  have q1 := pw_pos x.order
  have q2 := pw_pos p.order
  have w1 : IntKind.i64.wrap (x.at_ + pw x.order) = x.at_ + pw x.order := w64 (by omega) (by omega)
  have w2 : IntKind.i64.wrap (p.at_ + pw p.order) = p.at_ + pw p.order := w64 (by omega) (by omega)
  by_cases c : x.at_ < p.at_ + pw p.order
  · simp [Try.ntmps48, Try.results48, cSl, cI, cD, rRm, Rm.row, rmDec, x1, r1, h1, h2, w1, w2, meetB, c]
  · simp [Try.ntmps48, Try.results48, cSl, cI, cD, rRm, Rm.row, rmDec, x1, r1, h1, h2, w1, w2, meetB, c]
theorem meetsI_pure : PureOk Try.prog 41 (argM (cSl rRm) fun l => argM (cFn 48 rCapR) fun cp => finM (if l.length ≤ 4294967296 ∧ (∀ x ∈ l, okR x) ∧ okR cp then some (.v (.int .i64 (idxP (meetB cp) l))) else none)) := by
  refine pure2 Try.func41 rfl ?_
  rintro l cp r hr
  by_cases hc : l.length ≤ 4294967296 ∧ (∀ x ∈ l, okR x) ∧ okR cp
  case neg => rw [if_neg hc] at hr; cases hr
  rw [if_pos hc] at hr
  simp only [Option.some.injEq] at hr
  subst hr
  refine body_gen (noOrc_ok.withP meets_pure) fxMix (by kernel_rfl) (by simp [Try.ntmps41]) ?_
  intro C cP cI cN cD cF cA
  have cp0 := orcP meets_pure (C := C) (by rw [cP]; rfl)
  replace cI : C.inl = fun _ => false := cI
  replace cD : C.dyn = fun _ => [] := cD
  clear cP cN cF cA
  obtain ⟨hc, hok, hcp⟩ := hc
  simp [Try.ntmps41, Try.results41, cSl, cp0, cI, cD, rRm, rCapR]
  refine loop_for l.length (fun k (_ : Unit) => ([(0, .fsl false 2 (l.map Rm.row)), (1, .fn 48 [.fptr (Rm.row cp) 0]), (7, .v (.int .i64 l.length)), (8, .v (.int .i64 k))], [])) (fun k _ => ((l.drop k).findIdx? (meetB cp)).map (· + k) = l.findIdx? (meetB cp)) () hc (by simp) (by simp [Rm.row]) ?_ ?_
  · intro k _ hk hall hw
    have hok1 := hok _ (List.getElem_mem hk)
    by_cases q : (meetB cp) l[k] = true
    · rw [find_drop hk, if_pos q] at hall
      simp [Try.ntmps41, Try.results41, cSl, cp0, cI, cD, hk, hw, rRm, rCapR, rmDec, Rm.row, q, idxP, ← hall, hok1, hcp]
    · rw [find_drop hk, if_neg q] at hall
      simp at q
      simp [Try.ntmps41, Try.results41, cSl, cp0, cI, cD, hk, hw, rRm, rCapR, rmDec, Rm.row, q, hok1, hcp]
      simpa using hall
  · intro _ hall
    simp at hall
    simp [Try.ntmps41, Try.results41, cSl, cp0, cI, cD, idxP, ← hall]
theorem meetsC_pure : PureOk Try.prog 49 (argM (cSl rRm) fun l => argM (cFn 48 rCapR) fun cp => finM (if l.length ≤ 4294967296 ∧ (∀ x ∈ l, okR x) ∧ okR cp then some (.v (.bool (l.any (meetB cp)))) else none)) := by
  refine pure2 Try.func49 rfl ?_
  rintro l cp r hr
  by_cases hc : l.length ≤ 4294967296 ∧ (∀ x ∈ l, okR x) ∧ okR cp
  case neg => rw [if_neg hc] at hr; cases hr
  rw [if_pos hc] at hr
  simp only [Option.some.injEq] at hr
  subst hr
  refine body_gen (noOrc_ok.withP meetsI_pure) fxMix (by kernel_rfl) (by simp [Try.ntmps49]) ?_
  intro C cP cI cN cD cF cA
  have cp0 := orcP meetsI_pure (C := C) (by rw [cP]; rfl)
  replace cI : C.inl = fun _ => false := cI
  replace cD : C.dyn = fun _ => [] := cD
  clear cP cN cF cA
  have hc1 := hc.1
  have hc2 : (∀ x, x ∈ l → okR x) = True := eq_true hc.2.1
  have hc3 := hc.2.2
  simp [Try.ntmps49, Try.results49, cSl, cp0, cI, cD, hc1, hc2, hc3, idxP_iff, rRm, rCapR, rmDec, Rm.row] <;> (rw [Bool.eq_iff_iff]; simp)
def apartB (t : Twn) (r : Rm) : Bool := decide (0 ≤ r.order ∧ r.order ≤ t.order ∧ 0 ≤ r.at_ ∧ r.at_ ≤ pw t.order - pw r.order ∧ r.at_.tmod (pw r.order) = 0) && !(t.free.any (meetB r))
theorem fit_okR {N : Int} (hN : N ≤ 6) {x : Rm} (h : Fit N x) : okR x := by
  have := pw_le64 hN
  have := h.lt
  have := h.2.2.2.1
  exact ⟨h.1, by have := h.2.1; omega, h.2.2.1, by omega⟩
theorem apart_pure : PureOk Try.prog 39 (argM (cAgg rTwn) fun t => argM (cAgg rRm) fun p => finM (if twCheck t = 0 then some (.v (.bool (apartB t p))) else none)) := by
  refine pure2 Try.func39 rfl ?_
  rintro t p r hr
  by_cases hc : twCheck t = 0
  case neg => rw [if_neg hc] at hr; cases hr
  rw [if_pos hc] at hr
  simp only [Option.some.injEq] at hr
  subst hr
  refine body_gen (noOrc_ok.withP meetsC_pure) fxMix (by kernel_rfl) (by simp [Try.ntmps39]) ?_
  intro C cP cI cN cD cF cA
  have cp0 := orcP meetsC_pure (C := C) (by rw [cP]; rfl)
  replace cI : C.inl = fun _ => false := cI
  replace cD : C.dyn = fun _ => [] := cD
  clear cP cN cF cA
  obtain ⟨g1, g2, g3⟩ := twCheck_ok.1 hc
  obtain ⟨N, l⟩ := t
  simp only at g1 g2 g3
  have hl := okl_len g2 g3
  have hl2 : l.length ≤ 4294967296 := by omega
  have hok : (∀ x, x ∈ l → okR x) = True := eq_true fun x hx => fit_okR g2 (g3.1 x hx)
  have hNs := ishl_pw g1 g2
  have pN := pw_le64 g2
  have pN0 := pw_pos N
  by_cases c1 : 0 ≤ p.order
  case neg => simp [Try.ntmps39, Try.results39, cSl, cp0, cI, cD, rTwn, Twn.row, rRm, Rm.row, apartB, c1]
  by_cases c2 : p.order ≤ N
  case neg => simp [Try.ntmps39, Try.results39, cSl, cp0, cI, cD, rTwn, Twn.row, rRm, Rm.row, apartB, c1, c2]
  by_cases c3 : 0 ≤ p.at_
  case neg => simp [Try.ntmps39, Try.results39, cSl, cp0, cI, cD, rTwn, Twn.row, rRm, Rm.row, apartB, c1, c2, c3]
  have c6 : p.order ≤ 6 := by omega
  have hos := ishl_pw c1 c6
  have po := pw_le64 c6
  have po0 := pw_pos p.order
  have hwd : IntKind.i64.wrap (pw N - pw p.order) = pw N - pw p.order := w64 (by omega) (by omega)
  by_cases c4 : p.at_ ≤ pw N - pw p.order
  case neg => simp [Try.ntmps39, Try.results39, cSl, cp0, cI, cD, rTwn, Twn.row, rRm, Rm.row, apartB, c1, c2, c3, c4, hNs, hos, hwd, g1]
  have hne : ¬ pw p.order = 0 := by omega
  by_cases c5 : p.at_.tmod (pw p.order) = 0
  case neg => simp [Try.ntmps39, Try.results39, cSl, cp0, cI, cD, rTwn, Twn.row, rRm, Rm.row, apartB, c1, c2, c3, c4, c5, hNs, hos, hwd, hne, g1]
  have hop : okR p := ⟨c1, c6, c3, by omega⟩
  simp [Try.ntmps39, Try.results39, cSl, cp0, cI, cD, rTwn, Twn.row, rRm, rmDec, rCapR, Rm.row, apartB, c1, c2, c3, c4, c5, hNs, hos, hwd, hne, g1, hl2, hok, hop]
theorem meetB_off {N : Int} {l : List Rm} {r : Rm} : l.any (meetB r) = false ↔ Off l r := by
  simp only [List.any_eq_false, meetB, Bool.and_eq_true, decide_eq_true_eq, Off, Rm.end_]
  constructor
  · intro h x hx; have := h x hx; omega
  · intro h x hx; have := h x hx; omega
theorem apartB_iff {t : Twn} {r : Rm} : apartB t r = true ↔ Fit t.order r ∧ Off t.free r := by
  unfold apartB
  rw [Bool.and_eq_true, Bool.not_eq_true', meetB_off (N := t.order), decide_eq_true_eq, tmod_dvd]
  unfold Fit
  simp only [Rm.end_]
  constructor
  · rintro ⟨⟨h1, h2, h3, h4, h5⟩, h6⟩; exact ⟨⟨h1, h2, h3, by omega, h5⟩, h6⟩
  · rintro ⟨⟨h1, h2, h3, h4, h5⟩, h6⟩; exact ⟨⟨h1, h2, h3, by omega, h5⟩, h6⟩
end Go.Proofs.Ytjohjiphjmcolaa
