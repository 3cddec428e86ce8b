/- Which frames are free. -/
import Derived.Test.YtjohjiphjmcolaaTwD
namespace Go.Proofs.Ytjohjiphjmcolaa
open Go.AI
set_option maxHeartbeats 2000000
set_option maxRecDepth 100000
set_option linter.unusedSimpArgs false
set_option linter.unusedVariables false
attribute [local simp] wpA wpX RunA RunD runF foot footP footB idsA bare apart runL step1 gsel_f gsel_t gsel_s res_same res_and1 res_and2 res_and3 res_and4 res_and5 res_and6 res_false res_true res_v res_ptr res_fptr res_osl res_xsl soft aAppendZ aCap ovlI ovlJ res_fsl res_esl res_agg res_tup res_fn res_junk res_anyb aPick hk imp_left iteV dstOk guardOk astep astepE AI.ev AI.look AI.put envOf aBox cellsOf allOne allOneA oneA Value.oneCell' Value.cells newObj' aFieldAddr aLoad obj readAt thenA blockA condA retA resA tupA view hot hotC hotR depthV cAgg cInt cBool mkAgg allV aAlloc aBuild fillA writeAt aStore isAggA aField idx aIndexAddr aIndex bnd aSlice aExtract aLen aBuiltin aCall isStatic eqAgg eqTy eqC ev_add ev_sub ev_mul ev_quo ev_rem ev_and ev_or ev_xor ev_andNot ev_shl ev_shr ev_eql ev_neq ev_lss ev_leq ev_gtr ev_geq ev_agg w64 wu32 wu8 ev_not ev_neg Cod.plain RCod.plain argM finM cold coldC coldR goInt intDec boolDec aggDec Weaker heapW lowA lowC Again slDec undef aBuildSlice setRows aAppend rowsOf aMakeSlice aClear aCopy softer_self softer_nil valsOf ev_min2 ev_max2 hotR_set hotR_append take_map_set irow_cold irow_mapM irow_mapMc irow_view irow_viewc irow_hotR irow_ren irow_renc irow_low WeakT heapT thOf ren renC AgainT NextF NextT fnDec cFn rNil selfLt natLt0 natLt1 getLastMap frame0 frame1 own0 own1 argG finG tau tauI tauO tauC bareA bareC bareH irow_tau irow_tauc irow_bare irow_flat irow_bareR ownA_nil ownT_nil ownA_c ownT_c ownA_s ownT_s takeMapLen footC plainA noId noIdC cloneF frame0F frame1F insertF replaceI replaceF cellDec rCell fpDec cFp rTwo deleteF RunR RunE runFT footAt hotR_cat tmodN fxSz2 fxBy2 fxAg2 fxZe2 fxSl2 fxAr2 fxPl2 fxSz3 fxBy3 fxAg3 fxZe3 fxSl3 fxAr3 fxPl3 fxSz4 fxBy4 fxAg4 fxZe4 fxSl4 fxAr4 fxPl4 fxSz5 fxBy5 fxAg5 fxZe5 fxSl5 fxAr5 fxPl5 fxSz9 fxBy9 fxAg9 fxZe9 fxSl9 fxAr9 fxPl9 fxSz12 fxBy12 fxAg12 fxZe12 fxSl12 fxAr12 fxPl12 fxSz13 fxBy13 fxAg13 fxZe13 fxSl13 fxAr13 fxFi13x0 fxFi13x1 fxPl13 fxSz21 fxBy21 fxAg21 fxZe21 fxSl21 fxAr21 fxPl21 fxSz22 fxBy22 fxAg22 fxZe22 fxSl22 fxAr22 fxPl22 fxSz23 fxBy23 fxAg23 fxZe23 fxSl23 fxAr23 fxFi23x0 fxFi23x1 fxFi23x2 fxPl23 fxSz24 fxBy24 fxAg24 fxZe24 fxSl24 fxAr24 fxFi24x0 fxFi24x1 fxFi24x2 fxPl24 fxSz25 fxBy25 fxAg25 fxZe25 fxSl25 fxAr25 fxPl25 fxSz42 fxBy42 fxAg42 fxZe42 fxSl42 fxAr42 fxPl42 fxSz43 fxBy43 fxAg43 fxZe43 fxSl43 fxAr43 fxFi43x0 fxFi43x1 fxPl43 fxSz44 fxBy44 fxAg44 fxZe44 fxSl44 fxAr44 fxFi44x0 fxFi44x1 fxPl44 fxSz48 fxBy48 fxAg48 fxZe48 fxSl48 fxAr48 fxFi48x0 fxFi48x1 fxPl48 fxSz49 fxBy49 fxAg49 fxZe49 fxSl49 fxAr49 fxFi49x0 fxFi49x1 fxPl49 fxSz53 fxBy53 fxAg53 fxZe53 fxSl53 fxAr53 fxPl53 fxSz59 fxBy59 fxAg59 fxZe59 fxSl59 fxAr59 fxPl59 fxSz68 fxBy68 fxAg68 fxZe68 fxSl68 fxAr68 fxPl68 fxSz85 fxBy85 fxAg85 fxZe85 fxSl85 fxAr85 fxPl85 fxSz91 fxBy91 fxAg91 fxZe91 fxSl91 fxAr91 fxPl91 fxSz92 fxBy92 fxAg92 fxZe92 fxSl92 fxAr92 fxFi92x0 fxPl92 fxSz95 fxBy95 fxAg95 fxZe95 fxSl95 fxAr95 fxPl95 fxSz99 fxBy99 fxAg99 fxZe99 fxSl99 fxAr99 fxPl99 fxSz104 fxBy104 fxAg104 fxZe104 fxSl104 fxAr104 fxPl104 fxEq24 fxEq49 fxEq53 fxCv2x2 fxCv2x3 fxCv2x5 fxCv2x12 fxCv2x21 fxCv2x25 fxCv2x95 fxCv3x2 fxCv3x3 fxCv3x5 fxCv3x12 fxCv3x21 fxCv3x25 fxCv3x95 fxCv5x2 fxCv5x3 fxCv5x5 fxCv5x12 fxCv5x21 fxCv5x25 fxCv5x95 fxCv12x2 fxCv12x3 fxCv12x5 fxCv12x12 fxCv12x21 fxCv12x25 fxCv12x95 fxCv21x2 fxCv21x3 fxCv21x5 fxCv21x12 fxCv21x21 fxCv21x25 fxCv21x95 fxCv25x2 fxCv25x3 fxCv25x5 fxCv25x12 fxCv25x21 fxCv25x25 fxCv25x95 fxCv95x2 fxCv95x3 fxCv95x5 fxCv95x12 fxCv95x21 fxCv95x25 fxCv95x95 fxEb4 fxNb4 fxLt9 fxLn22 fxNe22 fxNn22 fxLn42 fxNe42 fxNn42 fxLn59 fxNe59 fxNn59 fxLn68 fxNe68 fxNn68 fxFn3 fxFm3 fxFb3 fxFi3 fxFj3 fxFn4 fxFm4 fxFb4 fxFi4 fxFj4 fxFn5 fxFm5 fxFb5 fxFi5 fxFj5 fxFn6 fxFm6 fxFb6 fxFi6 fxFj6 fxFn7 fxFm7 fxFb7 fxFi7 fxFj7 fxFn8 fxFm8 fxFb8 fxFi8 fxFj8 fxFn9 fxFm9 fxFb9 fxFi9 fxFj9 fxFn10 fxFm10 fxFb10 fxFi10 fxFj10 fxFn11 fxFm11 fxFb11 fxFi11 fxFj11 fxFn12 fxFm12 fxFb12 fxFi12 fxFj12 fxFn13 fxFm13 fxFb13 fxFi13 fxFj13 fxFn14 fxFm14 fxFb14 fxFi14 fxFj14 fxFn15 fxFm15 fxFb15 fxFi15 fxFj15 fxFn16 fxFm16 fxFb16 fxFi16 fxFj16 fxFn17 fxFm17 fxFb17 fxFi17 fxFj17 fxFn18 fxFm18 fxFb18 fxFi18 fxFj18 fxFn19 fxFm19 fxFb19 fxFi19 fxFj19 fxFn20 fxFm20 fxFb20 fxFi20 fxFj20 fxFn21 fxFm21 fxFb21 fxFi21 fxFj21 fxFn22 fxFm22 fxFb22 fxFi22 fxFj22 fxFn23 fxFm23 fxFb23 fxFi23 fxFj23 fxFn24 fxFm24 fxFb24 fxFi24 fxFj24 fxFn25 fxFm25 fxFb25 fxFi25 fxFj25 fxFn26 fxFm26 fxFb26 fxFi26 fxFj26 fxFn27 fxFm27 fxFb27 fxFi27 fxFj27 fxFn28 fxFm28 fxFb28 fxFi28 fxFj28 fxFn29 fxFm29 fxFb29 fxFi29 fxFj29 fxFn30 fxFm30 fxFb30 fxFi30 fxFj30 fxFn31 fxFm31 fxFb31 fxFi31 fxFj31 fxFn32 fxFm32 fxFb32 fxFi32 fxFj32 fxFn33 fxFm33 fxFb33 fxFi33 fxFj33 fxFn34 fxFm34 fxFb34 fxFi34 fxFj34 fxFn35 fxFm35 fxFb35 fxFi35 fxFj35 fxFn36 fxFm36 fxFb36 fxFi36 fxFj36 fxFn37 fxFm37 fxFb37 fxFi37 fxFj37 fxFn38 fxFm38 fxFb38 fxFi38 fxFj38 fxFn39 fxFm39 fxFb39 fxFi39 fxFj39 fxFn40 fxFm40 fxFb40 fxFi40 fxFj40 fxFn41 fxFm41 fxFb41 fxFi41 fxFj41 fxFn42 fxFm42 fxFb42 fxFi42 fxFj42 fxFn43 fxFm43 fxFb43 fxFi43 fxFj43 fxFn44 fxFm44 fxFb44 fxFi44 fxFj44 fxFn45 fxFm45 fxFb45 fxFi45 fxFj45 fxFn46 fxFm46 fxFb46 fxFi46 fxFj46 fxFn47 fxFm47 fxFb47 fxFi47 fxFj47 fxFn48 fxFm48 fxFb48 fxFi48 fxFj48 fxFn49 fxFm49 fxFb49 fxFi49 fxFj49 fxFn50 fxFm50 fxFn51 fxFm51 fxFb51 fxFi51 fxFj51 fxFn52 fxFm52 fxFb52 fxFi52 fxFj52 fxFn53 fxFm53 fxFn54 fxFm54 fxFb54 fxFi54 fxFj54 fxFn55 fxFm55 fxFb55 fxFi55 fxFj55 fxFn56 fxFm56 fxFb56 fxFi56 fxFj56 fxFn57 fxFm57 fxFb57 fxFi57 fxFj57 fxFn58 fxFm58 fxFb58 fxFi58 fxFj58
attribute [local simp] Rm.eta Rm.cold Rm.mapM Rm.mapMc Rm.view Rm.viewc Rm.hotR Rm.ren Rm.renc Rm.low Rm.tau Rm.tauc Rm.bare Rm.flat Rm.flat1 Rm.mapMt Rm.mapMd Rm.coldt Rm.coldd Rm.hotRt Rm.hotRd
attribute [local simp] Twn.eta Twn.dec_row Twn.dec_hrow Twn.cold Twn.hcold Twn.mapM Twn.mapMc Twn.hmapM Twn.hmapMc Twn.view Twn.viewc Twn.hview Twn.hviewc Twn.hotR Twn.ren Twn.renc Twn.low
def covB (l : List Rm) (q : Nat) : Bool := l.any fun r => decide (r.at_ ≤ q) && decide ((q : Int) < r.end_)
theorem covB_iff {l : List Rm} {q : Nat} : covB l q = true ↔ Cov l q := by
  simp [covB, Cov, Rm.has]
def arrR (f : Nat → Bool) : Row := (List.range 64).map fun q => .v (.bool (f q))
def arrL (f : Nat → Bool) : List Value := (List.range 64).map fun q => Value.bool (f q)
def arrV (f : Nat → Bool) : Array Value := (arrL f).toArray
theorem arrR_len (f : Nat → Bool) : (arrR f).length = 64 := by simp [arrR]
theorem arrR_get (f : Nat → Bool) {k : Nat} (hk : k < 64) : (arrR f)[k]? = some (.v (.bool (f k))) := by simp [arrR, hk]
theorem allV_map (l : List Nat) (f : Nat → Bool) : allV (l.map fun q => .v (.bool (f q))) = some (l.map fun q => Value.bool (f q)) := by
  induction l with
  | nil => rfl
  | cons a l ih => simp [allV, ih]
theorem allOne_map (l : List Nat) (f : Nat → Bool) : allOne (l.map fun q => Value.bool (f q)) = true := by
  induction l with
  | nil => rfl
  | cons a l ih => simp [allOne, ih, Value.oneCell']
theorem arrR_all (f : Nat → Bool) : allV (arrR f) = some (arrL f) := allV_map _ f
theorem arrL_one (f : Nat → Bool) : allOne (arrL f) = true := allOne_map _ f
theorem arrL_map (f : Nat → Bool) : List.map AVal.v (arrL f) = arrR f := by
  unfold arrL arrR
  rw [List.map_map]
  rfl
theorem arrR_agg (f : Nat → Bool) : mkAgg (arrR f) = .v (.agg (arrV f)) := by
  unfold mkAgg
  rw [arrR_all]; rfl
theorem arrV_cells (f : Nat → Bool) : cellsOf (.v (.agg (arrV f))) = some (arrR f) := by
  unfold cellsOf arrV
  simp only [arrL_one, if_true, arrL_map]
theorem arrR_take (f : Nat → Bool) : List.take 64 (arrR f) = arrR f := List.take_of_length_le (by rw [arrR_len]; decide)
theorem arrR_low (f : Nat → Bool) (n : Nat) : (arrR f).all (lowA n) = true := by simp [arrR, lowA]
theorem writeAt_one (row : Row) (k : Nat) (x : AVal) : writeAt row k [x] = row.set k x := by
  induction row generalizing k with
  | nil => cases k <;> simp [writeAt]
  | cons a r ih =>
    cases k with
    | zero => cases r <;> simp [writeAt]
    | succ k => simp [writeAt, ih]
theorem writeAt_all : ∀ (row cs : Row), row.length = cs.length → writeAt row 0 cs = cs
  | [], [], _ => rfl
  | _ :: r, c :: cs, h => by simp only [writeAt]; rw [writeAt_all r cs (by simpa using h)]
theorem arrR_set (f : Nat → Bool) {k : Nat} (hk : k < 64) : (arrR f).set k (.v (.bool true)) = arrR (fun q => f q || q == k) := by
  apply List.ext_getElem?
  intro i
  by_cases hi : i < 64
  · by_cases hik : i = k
    · subst hik
      rw [List.getElem?_set_self (by rw [arrR_len]; exact hi), arrR_get _ hi]; simp
    · rw [List.getElem?_set_ne (fun e => hik e.symm), arrR_get _ hi, arrR_get _ hi]
      simp [hik]
  · rw [List.getElem?_eq_none (by rw [List.length_set, arrR_len]; omega), List.getElem?_eq_none (by rw [arrR_len]; omega)]
theorem arrR_ext {f g : Nat → Bool} (h : ∀ q, q < 64 → f q = g q) : arrR f = arrR g := by
  unfold arrR
  apply List.map_congr_left
  intro q hq
  rw [h q (by simpa using hq)]
theorem covB_take {l : List Rm} {k : Nat} (hk : k < l.length) (q : Nat) : covB (l.take (k + 1)) q = (covB (l.take k) q || (decide (l[k].at_ ≤ q) && decide ((q : Int) < l[k].end_))) := by
  unfold covB
  rw [List.take_succ_eq_append_getElem hk, List.any_append]; simp
attribute [local simp] arrR_len arrR_take arrR_low arrR_all arrL_one arrL_map writeAt_one
theorem freeOf_pure : PureOk Try.prog 26 (argM (cAgg rTwn) fun t => finM (if twCheck t = 0 then some (.v (.agg (arrV (covB t.free)))) else none)) := by
  refine pure1 Try.func26 rfl ?_
  rintro t r hr
  by_cases hc : twCheck t = 0
  case neg => rw [if_neg hc] at hr; cases hr
  rw [if_pos hc] at hr
  simp only [Option.some.injEq] at hr
  subst hr
  refine body_gen noOrc_ok fxMix (by kernel_rfl) (by simp [Try.ntmps26]) ?_
  intro C cP cI cN cD cF cA
  replace cI : C.inl = fun _ => false := cI
  replace cD : C.dyn = fun _ => [] := cD
  clear cP cN cF cA
  obtain ⟨g1, g2, g3⟩ := twCheck_ok.1 hc
  obtain ⟨N, l⟩ := t
  simp only at g1 g2 g3
  have hl := okl_len g2 g3
  have pN := pw_le64 g2
  have z0 : arrR (covB []) = List.replicate 64 (.v (.bool false)) := by
    have h : covB [] = fun _ => false := by funext q; rfl
    rw [h]; rfl
  simp [Try.ntmps26, Try.results26, cSl, cI, cD, rTwn, Twn.row]
  refine loop_for l.length (fun k (_ : Unit) => ([(2, .ptr 1 64 0 0), (3, .ptr 2 64 0 0), (8, .fsl false 2 (l.map Rm.row)), (9, .v (.int .i64 l.length)), (10, .v (.int .i64 k))], [none, some (64, [List.replicate 64 (.v (.bool false))]), some (64, [arrR (covB (l.take k))])])) (fun k _ => True) () (by omega) trivial (by simp [z0]) ?_ ?_
  · rintro k _ hk _ hw
    have f := g3.1 _ (List.getElem_mem hk)
    have hos := ishl_pw f.1 (by have := f.2.1; omega)
    have hend := f.2.2.2.1
    have hp0 := pw_pos l[k].order
    simp only [Rm.end_] at hend
    obtain ⟨a, ha⟩ := Int.eq_ofNat_of_zero_le f.2.2.1
    obtain ⟨p, hp⟩ := Int.eq_ofNat_of_zero_le (Int.le_of_lt hp0)
    have f1 := f.1
    have f2 := f.2.1
    have e1 : (if l[k].order < 0 then 0 else l[k].order) = l[k].order := by omega
    have e2 : (if 0 > l[k].order then 0 else l[k].order) = l[k].order := by omega
    have e3 : (if 6 < l[k].order then 6 else l[k].order) = l[k].order := by omega
    have e4 : ¬ l[k].order < 0 := by omega
    have e5 : ¬ 6 < l[k].order := by omega
    have hct := covB_take hk
    rw [ha, hp] at hend
    rw [hp] at hos
    have w1 : IntKind.i64.wrap ((a : Int) + p) = (a : Int) + p := w64 (by omega) (by omega)
    have hE : arrR (fun q => covB (l.take k) q || (decide (a ≤ q) && decide (q < a + p))) = arrR (covB (l.take (k + 1))) := by
      refine arrR_ext fun q _ => ?_
      rw [hct, ha]
      simp only [Rm.end_, ha, hp]
      congr 1
      rw [Bool.eq_iff_iff]; simp; omega
    simp [Try.ntmps26, Try.results26, cSl, cI, cD, hk, hw, Rm.row, ha, f1]
    refine loop_for p (fun j (_ : Unit) => ([(2, .ptr 1 64 0 0), (3, .ptr 2 64 0 0), (5, .ptr 3 2 0 0), (6, .v (.int .i64 ((a : Int) + j))), (8, .fsl false 2 (l.map Rm.row)), (9, .v (.int .i64 l.length)), (10, .v (.int .i64 k))], [none, some (64, [List.replicate 64 (.v (.bool false))]), some (64, [arrR (fun q => covB (l.take k) q || (decide (a ≤ q) && decide (q < a + j)))]), some (2, [l[k].row])])) (fun j _ => True) () (by omega) trivial ?_ ?_ ?_
    · have hE0 : arrR (fun q => covB (l.take k) q || (decide (a ≤ q) && decide (q < a))) = arrR (covB (l.take k)) := by
        refine arrR_ext fun q _ => ?_
        have : (decide (a ≤ q) && decide (q < a)) = false := by simp
        rw [this, Bool.or_false]
      simp [Rm.row, ha, hE0]
    · rintro j _ hj _ hw2
      have ha64 : a + j < 64 := by omega
      have c1 : (a : Int) + j < a + p := by omega
      have c5 : a + j ≤ 63 := by omega
      have c2 : (a : Int) + j < 64 := by omega
      have c3 : 0 ≤ (a : Int) + j := by omega
      have c4 : ((a : Int) + j).toNat = a + j := by omega
      have w3 : IntKind.i64.wrap ((a : Int) + j + 1) = (a : Int) + ((j + 1 : Nat) : Int) := by rw [w64 (by omega) (by omega)]; omega
      have hS : (arrR (fun q => covB (l.take k) q || (decide (a ≤ q) && decide (q < a + j)))).set (a + j) (.v (.bool true)) = arrR (fun q => covB (l.take k) q || (decide (a ≤ q) && decide (q < a + (j + 1)))) := by
        rw [arrR_set _ ha64]
        refine arrR_ext fun q _ => ?_
        rw [Bool.or_assoc]
        congr 1
        rw [Bool.eq_iff_iff]; simp; omega
      simp [Try.ntmps26, Try.results26, cSl, cI, cD, hk, hw, Rm.row, ha, hp, f1, hos, e1, e2, e3, e4, e5, w1, w3, c1, c2, c3, c4, c5, ha64, hS]
    · rintro _ _
      simp [Try.ntmps26, Try.results26, cSl, cI, cD, hk, hw, Rm.row, ha, hp, f1, hos, e1, e2, e3, e4, e5, w1, hE]
  · rintro _ _
    simp [Try.ntmps26, Try.results26, cSl, cI, cD, writeAt_all, arrV]
end Go.Proofs.Ytjohjiphjmcolaa
