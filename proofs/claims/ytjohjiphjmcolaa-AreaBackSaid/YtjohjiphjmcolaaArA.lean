/- Package area: what its functions answer. -/
import Derived.Test.YtjohjiphjmcolaaArT
namespace Go.Proofs.Ytjohjiphjmcolaa
open Go.AI
set_option maxHeartbeats 2000000
set_option linter.unusedSimpArgs false
set_option linter.unusedVariables false
attribute [local simp] wpA wpX RunA RunD runF foot footP bare apart runL step1 gsel_f gsel_t gsel_s res_same res_and1 res_and2 res_and3 res_and4 res_and5 res_and6 res_false res_true res_v res_ptr res_fptr res_osl res_xsl soft aAppendZ aCap ovlI res_fsl res_esl res_agg res_tup res_fn res_junk res_anyb aPick hk imp_left iteV dstOk guardOk astep astepE AI.ev AI.look AI.put envOf aBox cellsOf allOne allOneA oneA Value.oneCell' Value.cells newObj' aFieldAddr aLoad obj readAt thenA blockA condA retA resA tupA view hot hotC hotR depthV cAgg cInt cBool mkAgg allV aAlloc aBuild fillA writeAt aStore isAggA aField idx aIndexAddr aIndex bnd aSlice aExtract aLen aBuiltin aCall isStatic eqAgg eqTy eqC ev_add ev_sub ev_mul ev_quo ev_rem ev_and ev_or ev_xor ev_andNot ev_shl ev_shr ev_eql ev_neq ev_lss ev_leq ev_gtr ev_geq ev_agg w64 wu32 wu8 ev_not ev_neg Cod.plain RCod.plain argM finM cold coldC coldR goInt intDec boolDec aggDec Weaker heapW lowA lowC Again slDec undef aBuildSlice setRows aAppend rowsOf aMakeSlice aClear aCopy softer_self softer_nil valsOf ev_min2 ev_max2 hotR_set hotR_append take_map_set irow_cold irow_mapM irow_mapMc irow_view irow_viewc irow_hotR irow_ren irow_renc irow_low WeakT heapT thOf ren renC AgainT NextF NextT fnDec cFn rNil selfLt natLt0 natLt1 getLastMap frame0 frame1 own0 own1 argG finG tau tauI tauO tauC bareA bareC bareH irow_tau irow_tauc irow_bare irow_flat irow_bareR ownA_nil ownT_nil ownA_c ownT_c ownA_s ownT_s takeMapLen footC plainA noId noIdC cloneF frame0F frame1F insertF fxSz2 fxBy2 fxAg2 fxZe2 fxSl2 fxAr2 fxPl2 fxSz3 fxBy3 fxAg3 fxZe3 fxSl3 fxAr3 fxPl3 fxSz4 fxBy4 fxAg4 fxZe4 fxSl4 fxAr4 fxPl4 fxSz5 fxBy5 fxAg5 fxZe5 fxSl5 fxAr5 fxPl5 fxSz9 fxBy9 fxAg9 fxZe9 fxSl9 fxAr9 fxPl9 fxSz12 fxBy12 fxAg12 fxZe12 fxSl12 fxAr12 fxPl12 fxSz13 fxBy13 fxAg13 fxZe13 fxSl13 fxAr13 fxFi13x0 fxFi13x1 fxPl13 fxSz21 fxBy21 fxAg21 fxZe21 fxSl21 fxAr21 fxPl21 fxSz22 fxBy22 fxAg22 fxZe22 fxSl22 fxAr22 fxPl22 fxSz23 fxBy23 fxAg23 fxZe23 fxSl23 fxAr23 fxFi23x0 fxFi23x1 fxFi23x2 fxPl23 fxSz24 fxBy24 fxAg24 fxZe24 fxSl24 fxAr24 fxFi24x0 fxFi24x1 fxFi24x2 fxPl24 fxSz25 fxBy25 fxAg25 fxZe25 fxSl25 fxAr25 fxPl25 fxSz42 fxBy42 fxAg42 fxZe42 fxSl42 fxAr42 fxPl42 fxSz43 fxBy43 fxAg43 fxZe43 fxSl43 fxAr43 fxFi43x0 fxFi43x1 fxPl43 fxSz44 fxBy44 fxAg44 fxZe44 fxSl44 fxAr44 fxFi44x0 fxFi44x1 fxPl44 fxSz48 fxBy48 fxAg48 fxZe48 fxSl48 fxAr48 fxFi48x0 fxFi48x1 fxPl48 fxSz49 fxBy49 fxAg49 fxZe49 fxSl49 fxAr49 fxFi49x0 fxFi49x1 fxPl49 fxSz53 fxBy53 fxAg53 fxZe53 fxSl53 fxAr53 fxPl53 fxSz59 fxBy59 fxAg59 fxZe59 fxSl59 fxAr59 fxPl59 fxSz68 fxBy68 fxAg68 fxZe68 fxSl68 fxAr68 fxPl68 fxSz85 fxBy85 fxAg85 fxZe85 fxSl85 fxAr85 fxPl85 fxSz91 fxBy91 fxAg91 fxZe91 fxSl91 fxAr91 fxPl91 fxSz92 fxBy92 fxAg92 fxZe92 fxSl92 fxAr92 fxFi92x0 fxPl92 fxSz95 fxBy95 fxAg95 fxZe95 fxSl95 fxAr95 fxPl95 fxSz99 fxBy99 fxAg99 fxZe99 fxSl99 fxAr99 fxPl99 fxSz104 fxBy104 fxAg104 fxZe104 fxSl104 fxAr104 fxPl104 fxEq24 fxEq49 fxEq53 fxCv2x2 fxCv2x3 fxCv2x5 fxCv2x12 fxCv2x21 fxCv2x25 fxCv2x95 fxCv3x2 fxCv3x3 fxCv3x5 fxCv3x12 fxCv3x21 fxCv3x25 fxCv3x95 fxCv5x2 fxCv5x3 fxCv5x5 fxCv5x12 fxCv5x21 fxCv5x25 fxCv5x95 fxCv12x2 fxCv12x3 fxCv12x5 fxCv12x12 fxCv12x21 fxCv12x25 fxCv12x95 fxCv21x2 fxCv21x3 fxCv21x5 fxCv21x12 fxCv21x21 fxCv21x25 fxCv21x95 fxCv25x2 fxCv25x3 fxCv25x5 fxCv25x12 fxCv25x21 fxCv25x25 fxCv25x95 fxCv95x2 fxCv95x3 fxCv95x5 fxCv95x12 fxCv95x21 fxCv95x25 fxCv95x95 fxEb4 fxNb4 fxLt9 fxLn22 fxNe22 fxNn22 fxLn42 fxNe42 fxNn42 fxLn59 fxNe59 fxNn59 fxLn68 fxNe68 fxNn68 fxFn3 fxFm3 fxFb3 fxFi3 fxFj3 fxFn4 fxFm4 fxFb4 fxFi4 fxFj4 fxFn5 fxFm5 fxFb5 fxFi5 fxFj5 fxFn6 fxFm6 fxFb6 fxFi6 fxFj6 fxFn7 fxFm7 fxFb7 fxFi7 fxFj7 fxFn8 fxFm8 fxFb8 fxFi8 fxFj8 fxFn9 fxFm9 fxFb9 fxFi9 fxFj9 fxFn10 fxFm10 fxFb10 fxFi10 fxFj10 fxFn11 fxFm11 fxFb11 fxFi11 fxFj11 fxFn12 fxFm12 fxFb12 fxFi12 fxFj12 fxFn13 fxFm13 fxFb13 fxFi13 fxFj13 fxFn14 fxFm14 fxFb14 fxFi14 fxFj14 fxFn15 fxFm15 fxFb15 fxFi15 fxFj15 fxFn16 fxFm16 fxFb16 fxFi16 fxFj16 fxFn17 fxFm17 fxFb17 fxFi17 fxFj17 fxFn18 fxFm18 fxFb18 fxFi18 fxFj18 fxFn19 fxFm19 fxFb19 fxFi19 fxFj19 fxFn20 fxFm20 fxFb20 fxFi20 fxFj20 fxFn21 fxFm21 fxFb21 fxFi21 fxFj21 fxFn22 fxFm22 fxFb22 fxFi22 fxFj22 fxFn23 fxFm23 fxFb23 fxFi23 fxFj23 fxFn24 fxFm24 fxFb24 fxFi24 fxFj24 fxFn25 fxFm25 fxFb25 fxFi25 fxFj25 fxFn26 fxFm26 fxFb26 fxFi26 fxFj26 fxFn27 fxFm27 fxFb27 fxFi27 fxFj27 fxFn28 fxFm28 fxFb28 fxFi28 fxFj28 fxFn29 fxFm29 fxFb29 fxFi29 fxFj29 fxFn30 fxFm30 fxFb30 fxFi30 fxFj30 fxFn31 fxFm31 fxFb31 fxFi31 fxFj31 fxFn32 fxFm32 fxFb32 fxFi32 fxFj32 fxFn33 fxFm33 fxFb33 fxFi33 fxFj33 fxFn34 fxFm34 fxFb34 fxFi34 fxFj34 fxFn35 fxFm35 fxFb35 fxFi35 fxFj35 fxFn36 fxFm36 fxFb36 fxFi36 fxFj36 fxFn37 fxFm37 fxFb37 fxFi37 fxFj37 fxFn38 fxFm38 fxFb38 fxFi38 fxFj38 fxFn39 fxFm39 fxFb39 fxFi39 fxFj39 fxFn40 fxFm40 fxFb40 fxFi40 fxFj40 fxFn41 fxFm41 fxFb41 fxFi41 fxFj41 fxFn42 fxFm42 fxFb42 fxFi42 fxFj42 fxFn43 fxFm43 fxFb43 fxFi43 fxFj43 fxFn44 fxFm44 fxFb44 fxFi44 fxFj44 fxFn45 fxFm45 fxFb45 fxFi45 fxFj45 fxFn46 fxFm46 fxFb46 fxFi46 fxFj46 fxFn47 fxFm47 fxFb47 fxFi47 fxFj47 fxFn48 fxFm48 fxFb48 fxFi48 fxFj48 fxFn49 fxFm49 fxFb49 fxFi49 fxFj49 fxFn50 fxFm50 fxFn51 fxFm51 fxFb51 fxFi51 fxFj51 fxFn52 fxFm52 fxFb52 fxFi52 fxFj52 fxFn53 fxFm53 fxFn54 fxFm54 fxFb54 fxFi54 fxFj54 fxFn55 fxFm55 fxFb55 fxFi55 fxFj55 fxFn56 fxFm56 fxFb56 fxFi56 fxFj56 fxFn57 fxFm57 fxFb57 fxFi57 fxFj57 fxFn58 fxFm58 fxFb58 fxFi58 fxFj58
attribute [local simp] Ar.eta Ar.cold Ar.mapM Ar.mapMc Ar.view Ar.viewc Ar.hotR Ar.ren Ar.renc Ar.low Ar.tau Ar.tauc Ar.bare Ar.flat Ar.flat1
theorem right_pure : PureOk Try.prog 35 (argM (cAgg rAr) fun a => finM (some (.v (.bool a.right)))) := by
  refine pure1 Try.func35 rfl ?_
  rintro a r hr
  simp only [Option.some.injEq] at hr
  subst hr
  refine body_gen noOrc_ok fxMix (by kernel_rfl) (by simp [Try.ntmps35]) ?_
  intro C cP cI cN cD cF
  replace cI : C.inl = fun _ => false := cI
  replace cD : C.dyn = fun _ => [] := cD
  clear cP cN cF
  by_cases h1 : 0 ≤ a.page
  · by_cases h2 : a.page < 64
    · have hw : IntKind.i64.wrap (64 - a.page) = 64 - a.page := w64 (by omega) (by omega)
      simp [Try.ntmps35, Try.results35, cSl, cI, cD, rAr, Ar.row, Ar.right, h1, h2, hw]
    · simp [Try.ntmps35, Try.results35, cSl, cI, cD, rAr, Ar.row, Ar.right, h1, h2]
  · simp [Try.ntmps35, Try.results35, cSl, cI, cD, rAr, Ar.row, Ar.right, h1]

theorem right_wrap {a : Ar} (h : a.right = true) : IntKind.i64.wrap (a.page + a.n) = a.page + a.n := by
  have := Ar.right_iff.1 h
  exact w64 (by omega) (by omega)
def prevA (l : List Ar) (k : Nat) : Option Ar := match k with | 0 => none | j + 1 => l[j]?

theorem arCheck_pure : PureOk Try.prog 16 (argM (cSl rAr) fun l => finM (some (.v (.int .i64 (arCheck l))))) := by
  refine pure1 Try.func16 rfl ?_
  rintro l r hr
  simp only [Option.some.injEq] at hr
  subst hr
  refine body_gen (noOrc_ok.withP right_pure) fxMix (by kernel_rfl) (by simp [Try.ntmps16]) ?_
  intro C cP cI cN cD cF
  have cp0 := orcP right_pure (C := C) (by rw [cP]; rfl)
  replace cI : C.inl = fun _ => false := cI
  replace cD : C.dyn = fun _ => [] := cD
  clear cP cN cF
  simp [Try.ntmps16, Try.results16, cSl, cp0, cI, cD, rAr]
  unfold arCheck
  split
  · rename_i h; simp [show 64 < l.length by omega]
  · rename_i h
    rw [if_neg (by omega)]
    refine loop_for l.length (fun k (_ : Unit) => ([(0, .fsl false 3 (l.map Ar.row)), (9, .fsl false 3 (l.map Ar.row)), (10, .v (.int .i64 l.length)), (11, .v (.int .i64 k))], [])) (fun k _ => arGo (prevA l k) (l.drop k) = arGo none l ∧ ∀ b, prevA l k = some b → b.right = true) () (by omega) ⟨rfl, by simp [prevA]⟩ (by simp) ?_ ?_
    · rintro k _ hk ⟨hall, hprev⟩ hw
      rw [List.drop_eq_getElem_cons hk] at hall
      by_cases q1 : l[k].right = true
      · by_cases q0 : k = 0
        · have q0' : (k = 0) = True := eq_true q0
          have hp : prevA l k = none := by rw [q0]; rfl
          have hp2 : prevA l (k + 1) = some l[k] := by simp [prevA, hk]
          simp only [arGo, hp, q1, if_true] at hall
          clear q0 hprev
          simp [Try.ntmps16, Try.results16, cSl, cp0, cI, cD, rAr, hk, hw, Ar.row, arDec, q1, q0', hp2]
          exact hall
        · have hj : k - 1 < l.length := by omega
          have hp : prevA l k = some l[k - 1] := by
            cases k with
            | zero => exact absurd rfl q0
            | succ j => simp [prevA]
          have hp2 : prevA l (k + 1) = some l[k] := by simp [prevA, hk]
          have hr := right_wrap (hprev _ hp)
          have hjw : IntKind.i64.wrap ((k : Int) - 1) = ((k - 1 : Nat) : Int) := by rw [w64 (by omega) (by omega)]; omega
          simp only [arGo, hp, q1, if_true] at hall
          by_cases q2 : l[k - 1].meets l[k] = true
          · rw [if_pos q2] at hall
            simp [Ar.meets] at q2
            clear hprev
            simp [Try.ntmps16, Try.results16, cSl, cp0, cI, cD, rAr, hk, hj, hw, Ar.row, arDec, q1, q0, hr, hjw]
            by_cases q3 : l[k].page < l[k - 1].page + l[k - 1].n
            · simp [q3, hall]
            · have q4 := q2.resolve_left q3
              simp [q3, q4, hall]
          · rw [if_neg q2] at hall
            simp [Ar.meets] at q2
            have q3 : ¬ l[k].page < l[k - 1].page + l[k - 1].n := by omega
            clear hprev
            by_cases q4 : l[k].page = l[k - 1].page + l[k - 1].n
            · have q5 := q2.2 q4
              replace q4 := eq_true q4
              simp [Try.ntmps16, Try.results16, cSl, cp0, cI, cD, rAr, hk, hj, hw, Ar.row, arDec, q1, q0, hr, hjw, q3, q4, q5, hp2]
              exact hall
            · simp [Try.ntmps16, Try.results16, cSl, cp0, cI, cD, rAr, hk, hj, hw, Ar.row, arDec, q1, q0, hr, hjw, q3, q4, hp2]
              exact hall
      · simp only [arGo, q1, if_false, Bool.false_eq_true] at hall
        simp at q1
        simp [Try.ntmps16, Try.results16, cSl, cp0, cI, cD, rAr, hk, hw, Ar.row, arDec, q1]
        exact hall
    · rintro _ ⟨hall, _⟩
      simp [arGo] at hall
      simp [Try.ntmps16, Try.results16, cSl, cp0, cI, cD, hall]

def arChk (l : List Ar) (a : Ar) : Int := if arCheck l = 0 then (if a.right = true then 0 else 1) else arCheck l
theorem arChk_pure : PureOk Try.prog 31 (argM (cSl rAr) fun l => argM (cAgg rAr) fun a => finM (some (.v (.int .i64 (arChk l a))))) := by
  refine pure2 Try.func31 rfl ?_
  rintro l a r hr
  simp only [Option.some.injEq] at hr
  subst hr
  refine body_gen ((noOrc_ok.withP arCheck_pure).withP right_pure) fxMix (by kernel_rfl) (by simp [Try.ntmps31]) ?_
  intro C cP cI cN cD cF
  have cp0 := orcP arCheck_pure (C := C) (by rw [cP]; rfl)
  have cp1 := orcP right_pure (C := C) (by rw [cP]; rfl)
  replace cI : C.inl = fun _ => false := cI
  replace cD : C.dyn = fun _ => [] := cD
  clear cP cN cF
  unfold arChk
  by_cases h0 : arCheck l = 0
  · by_cases h1 : a.right = true
    · simp [Try.ntmps31, Try.results31, cSl, cp0, cp1, cI, cD, rAr, Ar.row, arDec, h0, h1]
    · simp at h1
      simp [Try.ntmps31, Try.results31, cSl, cp0, cp1, cI, cD, rAr, Ar.row, arDec, h0, h1]
  · simp [Try.ntmps31, Try.results31, cSl, cp0, cp1, cI, cD, rAr, Ar.row, arDec, h0]
theorem arChk_ok {l : List Ar} {a : Ar} : arChk l a = 0 ↔ Good none l ∧ a.right = true := by
  unfold arChk
  rw [← arCheck_iff]
  split
  · rename_i h; simp [h]
  · rename_i h; simp [h]

theorem manyA_take {l : List Ar} {k : Nat} {f t : Int} (hk : k < l.length) : manyA (l.take (k + 1)) f t = manyA (l.take k) f t + many1 l[k] f t := by
  induction l generalizing k with
  | nil => simp at hk
  | cons a l ih =>
    cases k with
    | zero => simp [manyA_cons, manyA_nil]
    | succ k =>
      simp only [List.take_succ_cons, manyA_cons, List.getElem_cons_succ]
      rw [ih (by simpa using hk)]; omega
theorem good_take {p : Option Ar} {l : List Ar} (h : Good p l) (k : Nat) : Good p (l.take k) := by
  induction l generalizing p k with
  | nil => simp [Good]
  | cons a l ih =>
    cases k with
    | zero => simp [Good]
    | succ k => exact ⟨h.1, h.2.1, ih h.2.2 k⟩
theorem many_pure : PureOk Try.prog 32 (argM (cSl rAr) fun l => argM (cInt .i64) fun f => argM (cInt .i64) fun t => finM (if arCheck l = 0 ∧ 0 ≤ f ∧ f ≤ t ∧ t ≤ 64 then some (.v (.int .i64 (manyA l f t))) else none)) := by
  refine pure3 Try.func32 rfl ?_
  rintro l f t r hr
  by_cases hc : arCheck l = 0 ∧ 0 ≤ f ∧ f ≤ t ∧ t ≤ 64
  case neg => rw [if_neg hc] at hr; cases hr
  rw [if_pos hc] at hr
  simp only [Option.some.injEq] at hr
  subst hr
  refine body_gen noOrc_ok fxMix (by kernel_rfl) (by simp [Try.ntmps32]) ?_
  intro C cP cI cN cD cF
  replace cI : C.inl = fun _ => false := cI
  replace cD : C.dyn = fun _ => [] := cD
  clear cP cN cF
  obtain ⟨h0, h1, h2, h3⟩ := hc
  have hg := arCheck_iff.1 h0
  have hl := good_len0 hg
  simp [Try.ntmps32, Try.results32, cSl, cI, cD, rAr]
  refine loop_for l.length (fun k (_ : Unit) => ([(1, .v (.int .i64 f)), (2, .v (.int .i64 t)), (7, .v (.int .i64 (manyA (l.take k) f t))), (10, .fsl false 3 (l.map Ar.row)), (11, .v (.int .i64 l.length)), (12, .v (.int .i64 k))], [])) (fun k _ => True) () (by omega) trivial (by simp [manyA_nil]) ?_ ?_
  · rintro k _ hk _ hw
    have hr := hg.mem (List.getElem_mem hk)
    have hr1 := right_wrap hr
    have hr2 := Ar.right_iff.1 hr
    have m1 := manyA_le (good_take hg k) (f := f) (t := t) h2
    have m2 := manyA_nn (l.take k) f t
    have m3 := manyA_take (f := f) (t := t) hk
    have e1 : (if t < l[k].page + l[k].n then t else l[k].page + l[k].n) = min l[k].end_ t := by simp only [Ar.end_]; omega
    have e2 : (if f > l[k].page then f else l[k].page) = max l[k].page f := by omega
    have e2' : (if l[k].page < f then f else l[k].page) = max l[k].page f := by omega
    have w1 : IntKind.i64.wrap (min l[k].end_ t - max l[k].page f) = min l[k].end_ t - max l[k].page f := w64 (by simp only [Ar.end_]; omega) (by simp only [Ar.end_]; omega)
    have e3 : (if min l[k].end_ t - max l[k].page f > 0 then min l[k].end_ t - max l[k].page f else 0) = many1 l[k] f t := by unfold many1; omega
    have e3' : (if 0 < min l[k].end_ t - max l[k].page f then min l[k].end_ t - max l[k].page f else 0) = many1 l[k] f t := by unfold many1; omega
    have e4 : (if max l[k].page f < min l[k].end_ t then min l[k].end_ t - max l[k].page f else 0) = many1 l[k] f t := by unfold many1; omega
    have w2 : IntKind.i64.wrap (manyA (l.take k) f t + many1 l[k] f t) = manyA (l.take k) f t + many1 l[k] f t := w64 (by unfold many1; omega) (by simp only [many1, Ar.end_]; omega)
    simp [Try.ntmps32, Try.results32, cSl, cI, cD, hk, hw, Ar.row, hr1, e1, e2, e2', w1, e3, e3', e4, w2, m3]
  · intro _ _
    simp [Try.ntmps32, Try.results32, cSl, cI, cD]
theorem cutA_take {l : List Ar} {k : Nat} {f t : Int} (hk : k < l.length) : cutA (l.take (k + 1)) f t = cutA (l.take k) f t ++ cut1 l[k] f t := by
  unfold cutA
  rw [List.take_succ_eq_append_getElem hk, List.flatMap_append, List.flatMap_singleton]
theorem cutA_len (l : List Ar) (f t : Int) : (cutA l f t).length ≤ 2 * l.length := by
  induction l with
  | nil => simp [cutA]
  | cons a l ih =>
    have e : cutA (a :: l) f t = cut1 a f t ++ cutA l f t := by simp [cutA]
    rw [e, List.length_append, List.length_cons]
    have : (cut1 a f t).length ≤ 2 := by
      unfold cut1
      rw [List.length_append]
      split <;> split <;> simp
    omega
theorem cut_own : InlOk Try.prog 38 (own0 (argG (cSl rAr) fun l => argG (cInt .i64) fun f => argG (cInt .i64) fun t => finG (if arCheck l = 0 ∧ 0 ≤ f ∧ f ≤ t ∧ t ≤ 64 then some ((ownA 0 3 ((cutA l f t).map Ar.row), ownT 3 ((cutA l f t).map Ar.row))) else none))) := by
  refine own0_3 Try.func38 rfl ?_
  rintro l f t r H' hr
  by_cases hc : arCheck l = 0 ∧ 0 ≤ f ∧ f ≤ t ∧ t ≤ 64
  case neg => rw [if_neg hc] at hr; cases hr
  rw [if_pos hc] at hr
  simp only [Option.some.injEq, Prod.mk.injEq] at hr
  obtain ⟨rfl, rfl⟩ := hr
  refine bodyI_of noOrc_ok fxMix (by kernel_rfl) (by simp [Try.ntmps38]) ?_
  intro C cP cI cN cD cF
  replace cI : C.inl = fun _ => false := cI
  replace cD : C.dyn = fun _ => [] := cD
  clear cP cN cF
  obtain ⟨h0, h1, h2, h3⟩ := hc
  have hg := arCheck_iff.1 h0
  have hl := good_len0 hg
  simp [Try.ntmps38, Try.results38, cSl, cI, cD, rAr]
  refine loop_forT l.length (fun k (out : List Ar) => ([(1, .v (.int .i64 f)), (2, .v (.int .i64 t)), (7, ownA 0 3 (out.map Ar.row)), (13, .fsl false 3 (l.map Ar.row)), (14, .v (.int .i64 l.length)), (15, .v (.int .i64 k))], ownT 3 (out.map Ar.row))) (fun k out => out = cutA (l.take k) f t) [] [] (by omega) (by simp [cutA]) (by simp [ownA_nil, ownT_nil]) ?_ ?_
  · rintro k out hk hout hw
    have hr := hg.mem (List.getElem_mem hk)
    have hr1 := right_wrap hr
    have hr2 := Ar.right_iff.1 hr
    have hlen := cutA_len (l.take k) f t
    rw [← hout] at hlen
    simp at hlen
    have hlen1 : out.length + 1 ≤ 4294967296 := by omega
    have hlen2 : out.length + 2 ≤ 4294967296 := by omega
    have m3 := cutA_take (f := f) (t := t) hk
    rw [← hout] at m3
    have e1 : (if f < l[k].page + l[k].n then f else l[k].page + l[k].n) = min l[k].end_ f := by simp only [Ar.end_]; omega
    have e2 : (if t > l[k].page then t else l[k].page) = max l[k].page t := by omega
    have e2' : (if l[k].page < t then t else l[k].page) = max l[k].page t := by omega
    have w1 : IntKind.i64.wrap (min l[k].end_ f - l[k].page) = min l[k].end_ f - l[k].page := w64 (by simp only [Ar.end_]; omega) (by simp only [Ar.end_]; omega)
    have w2 : IntKind.i64.wrap (l[k].end_ - max l[k].page t) = l[k].end_ - max l[k].page t := w64 (by simp only [Ar.end_]; omega) (by simp only [Ar.end_]; omega)
    have ee : l[k].page + l[k].n = l[k].end_ := rfl
    rw [ee] at hr1 e1
    unfold cut1 at m3
    have n1 : ¬ (out.length + 1 ≤ out.length) := by omega
    by_cases q1 : l[k].page < min l[k].end_ f <;> by_cases q2 : max l[k].page t < l[k].end_
    all_goals
      simp only [q1, q2, if_true, if_false, List.append_nil, List.nil_append] at m3
      by_cases ho : out = []
    all_goals
      first
      | (subst ho; have o1 : True := trivial; have o2 : True := trivial)
      | (have o1 : ownA 0 3 (out.map Ar.row) = .osl 0 3 0 out.length out.length := by simp [ownA, ho]
         have o2 : ownT 3 (out.map Ar.row) = [some (3, out.map Ar.row)] := by simp [ownT, ho])
      simp [Try.ntmps38, Try.results38, cSl, cI, cD, hk, hw, Ar.row, hr1, ee, e1, e2, e2', w1, w2, q1, q2, hlen1, hlen2, o1, o2, n1, m3]
      first
      | done
      | (refine ⟨[], ?_⟩; simp [o1, o2]; done)
      | (refine ⟨[0], ?_⟩; simp [o1, o2]; done)
      | (refine ⟨[1], ?_⟩; simp [o1, o2]; done)
      | (refine ⟨[2], ?_⟩; simp [o1, o2]; done)
      | (refine ⟨[3], ?_⟩; simp [o1, o2]; done)
      | (refine ⟨[4], ?_⟩; simp [o1, o2]; done)
      | (refine ⟨[5], ?_⟩; simp [o1, o2]; done)
      | (refine ⟨[6], ?_⟩; simp [o1, o2]; done)
      | (refine ⟨[7], ?_⟩; simp [o1, o2]; done)
      | (refine ⟨[8], ?_⟩; simp [o1, o2]; done)
  · intro out hout
    simp at hout
    subst hout
    simp [Try.ntmps38, Try.results38, cSl, cI, cD]
    by_cases ho : cutA l f t = []
    · rw [ho]
      first
      | done
      | (refine ⟨[], ?_⟩; simp []; done)
      | (refine ⟨[0], ?_⟩; simp []; done)
      | (refine ⟨[1], ?_⟩; simp []; done)
      | (refine ⟨[2], ?_⟩; simp []; done)
      | (refine ⟨[3], ?_⟩; simp []; done)
      | (refine ⟨[4], ?_⟩; simp []; done)
      | (refine ⟨[5], ?_⟩; simp []; done)
      | (refine ⟨[6], ?_⟩; simp []; done)
      | (refine ⟨[7], ?_⟩; simp []; done)
      | (refine ⟨[8], ?_⟩; simp []; done)
    · have o1 : ownA 0 3 ((cutA l f t).map Ar.row) = .osl 0 3 0 (cutA l f t).length (cutA l f t).length := by simp [ownA, ho]
      have o2 : ownT 3 ((cutA l f t).map Ar.row) = [some (3, (cutA l f t).map Ar.row)] := by simp [ownT, ho]
      first
      | done
      | (refine ⟨[], ?_⟩; simp [o1, o2]; done)
      | (refine ⟨[0], ?_⟩; simp [o1, o2]; done)
      | (refine ⟨[1], ?_⟩; simp [o1, o2]; done)
      | (refine ⟨[2], ?_⟩; simp [o1, o2]; done)
      | (refine ⟨[3], ?_⟩; simp [o1, o2]; done)
      | (refine ⟨[4], ?_⟩; simp [o1, o2]; done)
      | (refine ⟨[5], ?_⟩; simp [o1, o2]; done)
      | (refine ⟨[6], ?_⟩; simp [o1, o2]; done)
      | (refine ⟨[7], ?_⟩; simp [o1, o2]; done)
      | (refine ⟨[8], ?_⟩; simp [o1, o2]; done)
theorem cut_inl : InlOk Try.prog 38 (frame0 (own0 (argG (cSl rAr) fun l => argG (cInt .i64) fun f => argG (cInt .i64) fun t => finG (if arCheck l = 0 ∧ 0 ≤ f ∧ f ≤ t ∧ t ≤ 64 then some ((ownA 0 3 ((cutA l f t).map Ar.row), ownT 3 ((cutA l f t).map Ar.row))) else none)))) := frame0_ok cut_own
end Go.Proofs.Ytjohjiphjmcolaa
