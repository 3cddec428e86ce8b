/- The laws of chapter 22 return true, the rest. -/
import Derived.Test.YtjohjiphjmcolaaTwG
namespace Go.Proofs.Ytjohjiphjmcolaa
open Go.AI
set_option maxHeartbeats 2000000
set_option maxRecDepth 100000
set_option linter.unusedSimpArgs false
set_option linter.unusedVariables false
attribute [local simp] wpA wpX RunA RunD runF foot footP footB idsA bare apart runL step1 gsel_f gsel_t gsel_s res_same res_and1 res_and2 res_and3 res_and4 res_and5 res_and6 res_false res_true res_v res_ptr res_fptr res_osl res_xsl soft aAppendZ aCap ovlI ovlJ res_fsl res_esl res_agg res_tup res_fn res_junk res_anyb aPick hk imp_left iteV dstOk guardOk astep astepE AI.ev AI.look AI.put envOf aBox cellsOf allOne allOneA oneA Value.oneCell' Value.cells newObj' aFieldAddr aLoad obj readAt thenA blockA condA retA resA tupA view hot hotC hotR depthV cAgg cInt cBool mkAgg allV aAlloc aBuild fillA writeAt aStore isAggA aField idx aIndexAddr aIndex bnd aSlice aExtract aLen aBuiltin aCall isStatic eqAgg eqTy eqC ev_add ev_sub ev_mul ev_quo ev_rem ev_and ev_or ev_xor ev_andNot ev_shl ev_shr ev_eql ev_neq ev_lss ev_leq ev_gtr ev_geq ev_agg w64 wu32 wu8 ev_not ev_neg Cod.plain RCod.plain argM finM cold coldC coldR goInt intDec boolDec aggDec Weaker heapW lowA lowC Again slDec undef aBuildSlice setRows aAppend rowsOf aMakeSlice aClear aCopy softer_self softer_nil valsOf ev_min2 ev_max2 hotR_set hotR_append take_map_set irow_cold irow_mapM irow_mapMc irow_view irow_viewc irow_hotR irow_ren irow_renc irow_low WeakT heapT thOf ren renC AgainT NextF NextT fnDec cFn rNil selfLt natLt0 natLt1 getLastMap frame0 frame1 own0 own1 argG finG tau tauI tauO tauC bareA bareC bareH irow_tau irow_tauc irow_bare irow_flat irow_bareR ownA_nil ownT_nil ownA_c ownT_c ownA_s ownT_s takeMapLen footC plainA noId noIdC cloneF frame0F frame1F insertF replaceI replaceF cellDec rCell fpDec cFp rTwo deleteF RunR RunE runFT footAt hotR_cat tmodN fxSz2 fxBy2 fxAg2 fxZe2 fxSl2 fxAr2 fxPl2 fxSz3 fxBy3 fxAg3 fxZe3 fxSl3 fxAr3 fxPl3 fxSz4 fxBy4 fxAg4 fxZe4 fxSl4 fxAr4 fxPl4 fxSz5 fxBy5 fxAg5 fxZe5 fxSl5 fxAr5 fxPl5 fxSz9 fxBy9 fxAg9 fxZe9 fxSl9 fxAr9 fxPl9 fxSz12 fxBy12 fxAg12 fxZe12 fxSl12 fxAr12 fxPl12 fxSz13 fxBy13 fxAg13 fxZe13 fxSl13 fxAr13 fxFi13x0 fxFi13x1 fxPl13 fxSz21 fxBy21 fxAg21 fxZe21 fxSl21 fxAr21 fxPl21 fxSz22 fxBy22 fxAg22 fxZe22 fxSl22 fxAr22 fxPl22 fxSz23 fxBy23 fxAg23 fxZe23 fxSl23 fxAr23 fxFi23x0 fxFi23x1 fxFi23x2 fxPl23 fxSz24 fxBy24 fxAg24 fxZe24 fxSl24 fxAr24 fxFi24x0 fxFi24x1 fxFi24x2 fxPl24 fxSz25 fxBy25 fxAg25 fxZe25 fxSl25 fxAr25 fxPl25 fxSz42 fxBy42 fxAg42 fxZe42 fxSl42 fxAr42 fxPl42 fxSz43 fxBy43 fxAg43 fxZe43 fxSl43 fxAr43 fxFi43x0 fxFi43x1 fxPl43 fxSz44 fxBy44 fxAg44 fxZe44 fxSl44 fxAr44 fxFi44x0 fxFi44x1 fxPl44 fxSz48 fxBy48 fxAg48 fxZe48 fxSl48 fxAr48 fxFi48x0 fxFi48x1 fxPl48 fxSz49 fxBy49 fxAg49 fxZe49 fxSl49 fxAr49 fxFi49x0 fxFi49x1 fxPl49 fxSz53 fxBy53 fxAg53 fxZe53 fxSl53 fxAr53 fxPl53 fxSz59 fxBy59 fxAg59 fxZe59 fxSl59 fxAr59 fxPl59 fxSz68 fxBy68 fxAg68 fxZe68 fxSl68 fxAr68 fxPl68 fxSz85 fxBy85 fxAg85 fxZe85 fxSl85 fxAr85 fxPl85 fxSz91 fxBy91 fxAg91 fxZe91 fxSl91 fxAr91 fxPl91 fxSz92 fxBy92 fxAg92 fxZe92 fxSl92 fxAr92 fxFi92x0 fxPl92 fxSz95 fxBy95 fxAg95 fxZe95 fxSl95 fxAr95 fxPl95 fxSz99 fxBy99 fxAg99 fxZe99 fxSl99 fxAr99 fxPl99 fxSz104 fxBy104 fxAg104 fxZe104 fxSl104 fxAr104 fxPl104 fxEq24 fxEq49 fxEq53 fxCv2x2 fxCv2x3 fxCv2x5 fxCv2x12 fxCv2x21 fxCv2x25 fxCv2x95 fxCv3x2 fxCv3x3 fxCv3x5 fxCv3x12 fxCv3x21 fxCv3x25 fxCv3x95 fxCv5x2 fxCv5x3 fxCv5x5 fxCv5x12 fxCv5x21 fxCv5x25 fxCv5x95 fxCv12x2 fxCv12x3 fxCv12x5 fxCv12x12 fxCv12x21 fxCv12x25 fxCv12x95 fxCv21x2 fxCv21x3 fxCv21x5 fxCv21x12 fxCv21x21 fxCv21x25 fxCv21x95 fxCv25x2 fxCv25x3 fxCv25x5 fxCv25x12 fxCv25x21 fxCv25x25 fxCv25x95 fxCv95x2 fxCv95x3 fxCv95x5 fxCv95x12 fxCv95x21 fxCv95x25 fxCv95x95 fxEb4 fxNb4 fxLt9 fxLn22 fxNe22 fxNn22 fxLn42 fxNe42 fxNn42 fxLn59 fxNe59 fxNn59 fxLn68 fxNe68 fxNn68 fxFn3 fxFm3 fxFb3 fxFi3 fxFj3 fxFn4 fxFm4 fxFb4 fxFi4 fxFj4 fxFn5 fxFm5 fxFb5 fxFi5 fxFj5 fxFn6 fxFm6 fxFb6 fxFi6 fxFj6 fxFn7 fxFm7 fxFb7 fxFi7 fxFj7 fxFn8 fxFm8 fxFb8 fxFi8 fxFj8 fxFn9 fxFm9 fxFb9 fxFi9 fxFj9 fxFn10 fxFm10 fxFb10 fxFi10 fxFj10 fxFn11 fxFm11 fxFb11 fxFi11 fxFj11 fxFn12 fxFm12 fxFb12 fxFi12 fxFj12 fxFn13 fxFm13 fxFb13 fxFi13 fxFj13 fxFn14 fxFm14 fxFb14 fxFi14 fxFj14 fxFn15 fxFm15 fxFb15 fxFi15 fxFj15 fxFn16 fxFm16 fxFb16 fxFi16 fxFj16 fxFn17 fxFm17 fxFb17 fxFi17 fxFj17 fxFn18 fxFm18 fxFb18 fxFi18 fxFj18 fxFn19 fxFm19 fxFb19 fxFi19 fxFj19 fxFn20 fxFm20 fxFb20 fxFi20 fxFj20 fxFn21 fxFm21 fxFb21 fxFi21 fxFj21 fxFn22 fxFm22 fxFb22 fxFi22 fxFj22 fxFn23 fxFm23 fxFb23 fxFi23 fxFj23 fxFn24 fxFm24 fxFb24 fxFi24 fxFj24 fxFn25 fxFm25 fxFb25 fxFi25 fxFj25 fxFn26 fxFm26 fxFb26 fxFi26 fxFj26 fxFn27 fxFm27 fxFb27 fxFi27 fxFj27 fxFn28 fxFm28 fxFb28 fxFi28 fxFj28 fxFn29 fxFm29 fxFb29 fxFi29 fxFj29 fxFn30 fxFm30 fxFb30 fxFi30 fxFj30 fxFn31 fxFm31 fxFb31 fxFi31 fxFj31 fxFn32 fxFm32 fxFb32 fxFi32 fxFj32 fxFn33 fxFm33 fxFb33 fxFi33 fxFj33 fxFn34 fxFm34 fxFb34 fxFi34 fxFj34 fxFn35 fxFm35 fxFb35 fxFi35 fxFj35 fxFn36 fxFm36 fxFb36 fxFi36 fxFj36 fxFn37 fxFm37 fxFb37 fxFi37 fxFj37 fxFn38 fxFm38 fxFb38 fxFi38 fxFj38 fxFn39 fxFm39 fxFb39 fxFi39 fxFj39 fxFn40 fxFm40 fxFb40 fxFi40 fxFj40 fxFn41 fxFm41 fxFb41 fxFi41 fxFj41 fxFn42 fxFm42 fxFb42 fxFi42 fxFj42 fxFn43 fxFm43 fxFb43 fxFi43 fxFj43 fxFn44 fxFm44 fxFb44 fxFi44 fxFj44 fxFn45 fxFm45 fxFb45 fxFi45 fxFj45 fxFn46 fxFm46 fxFb46 fxFi46 fxFj46 fxFn47 fxFm47 fxFb47 fxFi47 fxFj47 fxFn48 fxFm48 fxFb48 fxFi48 fxFj48 fxFn49 fxFm49 fxFb49 fxFi49 fxFj49 fxFn50 fxFm50 fxFn51 fxFm51 fxFb51 fxFi51 fxFj51 fxFn52 fxFm52 fxFb52 fxFi52 fxFj52 fxFn53 fxFm53 fxFn54 fxFm54 fxFb54 fxFi54 fxFj54 fxFn55 fxFm55 fxFb55 fxFi55 fxFj55 fxFn56 fxFm56 fxFb56 fxFi56 fxFj56 fxFn57 fxFm57 fxFb57 fxFi57 fxFj57 fxFn58 fxFm58 fxFb58 fxFi58 fxFj58
attribute [local simp] Rm.eta Rm.cold Rm.mapM Rm.mapMc Rm.view Rm.viewc Rm.hotR Rm.ren Rm.renc Rm.low Rm.tau Rm.tauc Rm.bare Rm.flat Rm.flat1 Rm.mapMt Rm.mapMd Rm.coldt Rm.coldd Rm.hotRt Rm.hotRd
attribute [local simp] Twn.eta Twn.dec_row Twn.dec_hrow Twn.cold Twn.hcold Twn.mapM Twn.mapMc Twn.hmapM Twn.hmapMc Twn.view Twn.viewc Twn.hview Twn.hviewc Twn.hotR Twn.ren Twn.renc Twn.low
theorem arrR_get' (f : Nat → Bool) (k : Nat) (h : k < (arrR f).length) : (arrR f)[k] = .v (.bool (f k)) := by
  have h2 : k < 64 := by rw [arrR_len] at h; exact h
  have := arrR_get f h2
  rw [List.getElem?_eq_getElem h] at this
  simpa using this
attribute [local simp] arrR_get' arrR_len arrR_take arrR_low arrR_all arrL_one arrL_map writeAt_one
def cnt (f : Nat → Bool) : Nat → Int
  | 0 => 0
  | k + 1 => cnt f k + (if f k = true then 1 else 0)
theorem cnt_le (f : Nat → Bool) (n : Nat) : 0 ≤ cnt f n ∧ cnt f n ≤ n := by
  induction n with
  | zero => simp [cnt]
  | succ n ih => simp only [cnt]; split <;> omega
theorem cnt_has (a b : Nat) (hab : a ≤ b) (n : Nat) : cnt (fun q => decide (a ≤ q) && decide (q < b)) n = ((min n b - min n a : Nat) : Int) := by
  induction n with
  | zero => simp [cnt]
  | succ n ih =>
    simp only [cnt, ih, Bool.and_eq_true, decide_eq_true_eq]
    split <;> omega
theorem cnt_or {f g h : Nat → Bool} {n : Nat} (hd : ∀ q, q < n → ¬ (f q = true ∧ g q = true)) (he : ∀ q, q < n → h q = (f q || g q)) : cnt h n = cnt f n + cnt g n := by
  induction n with
  | zero => simp [cnt]
  | succ n ih =>
    have h1 := hd n (by omega)
    have h2 := he n (by omega)
    simp only [cnt, ih (fun q hq => hd q (by omega)) (fun q hq => he q (by omega)), h2]
    cases hf : f n <;> cases hg : g n <;> simp_all <;> omega
theorem cnt_cov {N : Int} (hN : N ≤ 6) : ∀ l : List Rm, Okl N l → cnt (covB l) 64 = sumP l := by
  intro l
  induction l with
  | nil => intro _; rfl
  | cons r l ih =>
    intro h
    obtain ⟨f, t, ok⟩ := okl_cons.1 h
    obtain ⟨a, ha⟩ := Int.eq_ofNat_of_zero_le f.2.2.1
    obtain ⟨p, hp⟩ := Int.eq_ofNat_of_zero_le (Int.le_of_lt (pw_pos r.order))
    have hend := f.2.2.2.1
    have pN := pw_le64 hN
    simp only [Rm.end_, ha, hp] at hend
    rw [cnt_or (f := fun q => decide (a ≤ q) && decide (q < a + p)) (g := covB l), ih ok, cnt_has a (a + p) (by omega)]
    · simp only [sumP, List.map_cons, List.sum_cons, hp]
      omega
    · intro q hq ⟨h1, h2⟩
      have := okl_behind h (covB_iff.1 h2)
      simp only [Rm.end_, ha, hp] at this
      simp at h1
      omega
    · intro q hq
      simp only [covB, List.any_cons, Rm.end_, ha, hp]
      congr 1
      rw [Bool.eq_iff_iff]; simp; omega
theorem maxO_ge (l : List Rm) : ∀ (b : Int), b ≤ l.foldl (fun b r => max b r.order) b ∧ (∀ r ∈ l, r.order ≤ l.foldl (fun b r => max b r.order) b) ∧ ∀ o, b < o → (∀ r ∈ l, r.order < o) → l.foldl (fun b r => max b r.order) b < o := by
  induction l with
  | nil => intro b; simp
  | cons r l ih =>
    intro b
    obtain ⟨h1, h2, h3⟩ := ih (max b r.order)
    simp only [List.foldl_cons]
    refine ⟨by omega, fun x hx => ?_, fun o hb ho => ?_⟩
    · rcases List.mem_cons.1 hx with rfl | hx
      · omega
      · exact h2 x hx
    · exact h3 o (by have := ho r (by simp); omega) (fun x hx => ho x (by simp [hx]))
theorem take_iff {t : Twn} {o : Int} (hck : twCheck t = 0) (h0 : 0 ≤ o) (hN : o ≤ t.order) : (∃ p, twTake t o = .ok p ∧ o ≤ maxO t.free) ∨ (twTake t o = .error 6 ∧ maxO t.free < o) := by
  obtain ⟨m1, m2, m3⟩ := maxO_ge t.free (-1)
  unfold twTake
  rw [if_pos hck, if_neg (by omega)]
  rcases bestGo_ok t.free o t.free.length (Nat.le_refl _) with ⟨h1, h2⟩ | ⟨n, r, h1, h2, h3, h4⟩
  · right
    refine ⟨by rw [h1]; rfl, m3 o (by omega) fun r hr => ?_⟩
    obtain ⟨i, hi, rfl⟩ := List.getElem_of_mem hr
    exact h2 i _ hi (by simp [hi])
  · left
    have hneg : ¬ ((n : Int) < 0) := by omega
    refine ⟨_, by rw [h1, if_neg hneg]; simp only [Int.toNat_natCast, h3]; rfl, ?_⟩
    have := m2 r (List.mem_of_getElem? h3)
    unfold maxO; omega
theorem full_pure : PureOk Try.prog 10 (argM (cAgg rTwn) fun t => argM (cInt .i64) fun o => finM (some (.v (.bool true)))) := by
  refine pure2 Try.func10 rfl ?_
  rintro t o r hr
  simp only [Option.some.injEq] at hr
  subst hr
  refine body_gen ((((noOrc_ok.withP twTake_pure).withP twMost_pure).withP twins_pure).withP freeOf_pure) fxMix (by kernel_rfl) (by simp [Try.ntmps10]) ?_
  intro C cP cI cN cD cF cA
  have cp0 := orcP twTake_pure (C := C) (by rw [cP]; rfl)
  have cp1 := orcP twMost_pure (C := C) (by rw [cP]; rfl)
  have cp2 := orcP twins_pure (C := C) (by rw [cP]; rfl)
  have cp3 := orcP freeOf_pure (C := C) (by rw [cP]; rfl)
  replace cI : C.inl = fun _ => false := cI
  replace cD : C.dyn = fun _ => [] := cD
  clear cP cN cF cA
  obtain ⟨N, l⟩ := t
  by_cases hck : twCheck ⟨N, l⟩ = 0
  case neg =>
    have ht : twTake ⟨N, l⟩ o = .error (twCheck ⟨N, l⟩) := by unfold twTake; rw [if_neg hck]
    simp [Try.ntmps10, Try.results10, cSl, cp0, cp1, cp2, cp3, cI, cD, rTwn, twnDec, rRm, Twn.row, ht, hck, takeE]
  obtain ⟨g1, g2, g3⟩ := twCheck_ok.1 hck
  simp only at g1 g2 g3
  by_cases c1 : o < 0
  · have ht : twTake ⟨N, l⟩ o = .error 1 := by unfold twTake; rw [if_pos hck, if_pos (.inl c1)]
    simp [Try.ntmps10, Try.results10, cSl, cp0, cp1, cp2, cp3, cI, cD, rTwn, twnDec, rRm, Twn.row, ht, hck, takeE, c1]
  by_cases c2 : N < o
  · have ht : twTake ⟨N, l⟩ o = .error 1 := by unfold twTake; rw [if_pos hck, if_pos (.inr c2)]
    simp [Try.ntmps10, Try.results10, cSl, cp0, cp1, cp2, cp3, cI, cD, rTwn, twnDec, rRm, Twn.row, ht, hck, takeE, c1, c2]
  have hcnt := cnt_cov g2 l g3
  rcases take_iff (t := ⟨N, l⟩) (o := o) hck (by omega) (by simp only; omega) with ⟨p, hp, hm⟩ | ⟨hp, hm⟩
  · obtain ⟨⟨N', l'⟩, a⟩ := p
    simp only at hm
    simp [Try.ntmps10, Try.results10, cSl, cp0, cp1, cp2, cp3, cI, cD, rTwn, twnDec, rRm, Twn.row, Twn.hrow, hp, hck, takeE, c1, c2, arrV]
    refine loop_for 64 (fun k (_ : Unit) => ([(1, .v (.int .i64 o)), (7, .v (.int .i64 0)), (8, .v (.int .i64 (maxO l))), (9, .v (.int .i64 (sumP l))), (11, .v (.int .i64 (cnt (covB l) k))), (49, .v (.agg (arrL (covB l)).toArray)), (50, .v (.int .i64 k))], [])) (fun k _ => True) () (by omega) trivial (by simp [cnt]) ?_ ?_
    · rintro k _ hk _ hw
      have hg := arrR_get (covB l) hk
      have hk64 : (k : Int) < 64 := by omega
      have hcl := cnt_le (covB l) k
      have w1 : IntKind.i64.wrap (cnt (covB l) k + 1) = cnt (covB l) k + 1 := w64 (by omega) (by omega)
      cases hq : covB l k
      · simp [Try.ntmps10, Try.results10, cSl, cp0, cp1, cp2, cp3, cI, cD, hk, hk64, hw, hg, hq, cnt]
      · simp [Try.ntmps10, Try.results10, cSl, cp0, cp1, cp2, cp3, cI, cD, hk, hk64, hw, hg, hq, w1, cnt]
    · rintro _ _
      simp [Try.ntmps10, Try.results10, cSl, cp0, cp1, cp2, cp3, cI, cD, hcnt, hm]
  · simp only at hm
    have hm2 : ¬ o ≤ maxO l := by omega
    simp [Try.ntmps10, Try.results10, cSl, cp0, cp1, cp2, cp3, cI, cD, rTwn, twnDec, rRm, Twn.row, Twn.hrow, hp, hck, takeE, c1, c2, arrV]
    refine loop_for 64 (fun k (_ : Unit) => ([(1, .v (.int .i64 o)), (7, .v (.int .i64 6)), (8, .v (.int .i64 (maxO l))), (9, .v (.int .i64 (sumP l))), (11, .v (.int .i64 (cnt (covB l) k))), (49, .v (.agg (arrL (covB l)).toArray)), (50, .v (.int .i64 k))], [])) (fun k _ => True) () (by omega) trivial (by simp [cnt]) ?_ ?_
    · rintro k _ hk _ hw
      have hg := arrR_get (covB l) hk
      have hk64 : (k : Int) < 64 := by omega
      have hcl := cnt_le (covB l) k
      have w1 : IntKind.i64.wrap (cnt (covB l) k + 1) = cnt (covB l) k + 1 := w64 (by omega) (by omega)
      cases hq : covB l k
      · simp [Try.ntmps10, Try.results10, cSl, cp0, cp1, cp2, cp3, cI, cD, hk, hk64, hw, hg, hq, cnt]
      · simp [Try.ntmps10, Try.results10, cSl, cp0, cp1, cp2, cp3, cI, cD, hk, hk64, hw, hg, hq, w1, cnt]
    · rintro _ _
      simp [Try.ntmps10, Try.results10, cSl, cp0, cp1, cp2, cp3, cI, cD, hcnt, hm2]
theorem takes_pure : PureOk Try.prog 9 (argM (cAgg rTwn) fun t => argM (cInt .i64) fun o => finM (some (.v (.bool true)))) := by
  refine pure2 Try.func9 rfl ?_
  rintro t o r hr
  simp only [Option.some.injEq] at hr
  subst hr
  refine body_gen ((((((noOrc_ok.withP twTake_pure).withP twins_pure).withP freeOf_pure).withP twCheck_pure).withD (fun i => if i = 4 then [(4,5),(0,4),(1,4),(2,4),(3,4),(0,5),(1,5),(2,5),(3,5)] else [])).withA (fun i => if i = 4 then [0,1,2,3,5,4,6,7] else [])) fxMix (by kernel_rfl) (by simp [Try.ntmps9]) ?_
  intro C cP cI cN cD cF cA
  have cp0 := orcP twTake_pure (C := C) (by rw [cP]; rfl)
  have cp1 := orcP twins_pure (C := C) (by rw [cP]; rfl)
  have cp2 := orcP freeOf_pure (C := C) (by rw [cP]; rfl)
  have cp3 := orcP twCheck_pure (C := C) (by rw [cP]; rfl)
  replace cI : C.inl = fun _ => false := cI
  replace cD : C.dyn = fun i => if i = 4 then [(4,5),(0,4),(1,4),(2,4),(3,4),(0,5),(1,5),(2,5),(3,5)] else [] := cD
  replace cF := fun g => congrFun cF g
  simp only [Orc.withP, Orc.withI, Orc.withF, Orc.withD, Orc.withA, noOrc] at cF
  replace cA : C.alt = fun i => if i = 4 then [0,1,2,3,5,4,6,7] else [] := cA
  have rg8 : List.range 8 = [0, 1, 2, 3, 4, 5, 6, 7] := rfl
  clear cP cN
  obtain ⟨N, l⟩ := t
  cases h1 : twTake ⟨N, l⟩ o with
  | error e =>
    have he := take_err h1
    simp [Try.ntmps9, Try.results9, cSl, cp0, cp1, cp2, cp3, cI, cD, cF, cA, rg8, rTwn, twnDec, rRm, Twn.row, h1, takeE, he]
  | ok p =>
    obtain ⟨⟨N', l'⟩, a⟩ := p
    have kn := take_full h1
    have hN := kn.ord
    simp only at hN
    subst hN
    have hck := kn.ck
    have hck' := check_of kn.ck kn.ord kn.ok'
    have hcov := kn.cov
    have hwas := kn.was
    simp only at hcov hwas
    obtain ⟨g1, g2, g3⟩ := twCheck_ok.1 hck
    simp only at g1 g2 g3
    have kf := kn.fit
    have kN := kn.oN
    simp only at kf kN
    obtain ⟨f1, f2, f3, f4, f5⟩ := kf
    simp only [Rm.end_] at f1 f2 f3 f4 f5
    have hos := ishl_pw kn.o0 (by omega)
    have hNs := ishl_pw g1 g2
    have pN := pw_le64 g2
    have po := pw_pos o
    have w1 : IntKind.i64.wrap (a + pw o) = a + pw o := w64 (by omega) (by omega)
    have hfin1 : ¬ pw o = 0 := by omega
    have hfin2 : a.tmod (pw o) = 0 := Int.tmod_eq_zero_of_dvd f5
    have hfin3 := f3
    have hfin4 := f4
    have hfin5 := g1
    simp [Try.ntmps9, Try.results9, cSl, cp0, cp1, cp2, cp3, cI, cD, cF, cA, rg8, rTwn, twnDec, rRm, Twn.row, Twn.hrow, h1, hck, hck', takeE, arrV, writeAt_all]
    constructor
    ·
      refine loop_for 64 (fun k (_ : Unit) => ([(1, .v (.int .i64 o)), (2, .ptr 0 2 0 0), (5, .ptr 1 2 0 0), (6, .v (.int .i64 a)), (8, .ptr 2 64 0 0), (9, .ptr 3 64 0 0), (40, .v (.int .i64 k))], [some (2, [Twn.row ⟨N', l⟩]), some (2, [Twn.hrow ⟨N', l'⟩]), some (64, [arrR (covB l)]), some (64, [arrR (covB l')])])) (fun k _ => True) () (by omega) trivial (by simp [writeAt_all, Twn.row, Twn.hrow]) ?_ ?_
      · rintro k _ hk _ hw
        have hg := arrR_get (covB l) hk
        have hk64 : (k : Int) < 64 := by omega
        have hg' := arrR_get (covB l') hk
        have hk1 := hcov k
        have hk2 := hwas k
        rw [← covB_iff, ← covB_iff] at hk1
        rw [← covB_iff] at hk2
        simp only [Rm.has, Rm.end_] at hk1 hk2
        by_cases q1 : a ≤ k
        · by_cases q2 : (k : Int) < a + pw o
          · have e1 := hk2 ⟨q1, q2⟩
            have e2 : covB l' k = false := by
              cases h : covB l' k
              · rfl
              · exact absurd ⟨q1, q2⟩ (hk1.1 h).2
            simp [Try.ntmps9, Try.results9, cSl, cp0, cp1, cp2, cp3, cI, cD, cF, cA, rg8, hk, hk64, hw, hg, hg', e1, e2, q1, q2, hos, w1, Twn.row, Twn.hrow, kn.o0]
          · have e1 : covB l' k = covB l k := by
              rw [Bool.eq_iff_iff, hk1]
              exact ⟨fun h => h.1, fun h => ⟨h, fun h2 => q2 h2.2⟩⟩
            simp [Try.ntmps9, Try.results9, cSl, cp0, cp1, cp2, cp3, cI, cD, cF, cA, rg8, hk, hk64, hw, hg, hg', e1, q1, q2, hos, w1, Twn.row, Twn.hrow, kn.o0]
        · have e1 : covB l' k = covB l k := by
            rw [Bool.eq_iff_iff, hk1]
            exact ⟨fun h => h.1, fun h => ⟨h, fun h2 => q1 h2.1⟩⟩
          simp [Try.ntmps9, Try.results9, cSl, cp0, cp1, cp2, cp3, cI, cD, cF, cA, rg8, hk, hk64, hw, hg, hg', e1, q1, hos, w1, Twn.row, Twn.hrow, kn.o0]
      · rintro _ _
        simp [Try.ntmps9, Try.results9, cSl, cp0, cp1, cp2, cp3, cI, cD, cF, cA, rg8, rTwn, twnDec, rRm, Twn.row, Twn.hrow, hck', hos, hNs, w1, kn.o0, hfin1, hfin2, hfin3, hfin4, hfin5]
    ·
      refine loop_for 64 (fun k (_ : Unit) => ([(1, .v (.int .i64 o)), (2, .ptr 0 2 0 0), (5, .ptr 1 2 0 0), (6, .v (.int .i64 a)), (8, .ptr 3 64 0 0), (9, .ptr 2 64 0 0), (40, .v (.int .i64 k))], [some (2, [Twn.row ⟨N', l⟩]), some (2, [Twn.hrow ⟨N', l'⟩]), some (64, [arrR (covB l')]), some (64, [arrR (covB l)])])) (fun k _ => True) () (by omega) trivial (by simp [writeAt_all, Twn.row, Twn.hrow]) ?_ ?_
      · rintro k _ hk _ hw
        have hg := arrR_get (covB l) hk
        have hk64 : (k : Int) < 64 := by omega
        have hg' := arrR_get (covB l') hk
        have hk1 := hcov k
        have hk2 := hwas k
        rw [← covB_iff, ← covB_iff] at hk1
        rw [← covB_iff] at hk2
        simp only [Rm.has, Rm.end_] at hk1 hk2
        by_cases q1 : a ≤ k
        · by_cases q2 : (k : Int) < a + pw o
          · have e1 := hk2 ⟨q1, q2⟩
            have e2 : covB l' k = false := by
              cases h : covB l' k
              · rfl
              · exact absurd ⟨q1, q2⟩ (hk1.1 h).2
            simp [Try.ntmps9, Try.results9, cSl, cp0, cp1, cp2, cp3, cI, cD, cF, cA, rg8, hk, hk64, hw, hg, hg', e1, e2, q1, q2, hos, w1, Twn.row, Twn.hrow, kn.o0]
          · have e1 : covB l' k = covB l k := by
              rw [Bool.eq_iff_iff, hk1]
              exact ⟨fun h => h.1, fun h => ⟨h, fun h2 => q2 h2.2⟩⟩
            simp [Try.ntmps9, Try.results9, cSl, cp0, cp1, cp2, cp3, cI, cD, cF, cA, rg8, hk, hk64, hw, hg, hg', e1, q1, q2, hos, w1, Twn.row, Twn.hrow, kn.o0]
        · have e1 : covB l' k = covB l k := by
            rw [Bool.eq_iff_iff, hk1]
            exact ⟨fun h => h.1, fun h => ⟨h, fun h2 => q1 h2.1⟩⟩
          simp [Try.ntmps9, Try.results9, cSl, cp0, cp1, cp2, cp3, cI, cD, cF, cA, rg8, hk, hk64, hw, hg, hg', e1, q1, hos, w1, Twn.row, Twn.hrow, kn.o0]
      · rintro _ _
        simp [Try.ntmps9, Try.results9, cSl, cp0, cp1, cp2, cp3, cI, cD, cF, cA, rg8, rTwn, twnDec, rRm, Twn.row, Twn.hrow, hck', hos, hNs, w1, kn.o0, hfin1, hfin2, hfin3, hfin4, hfin5]
end Go.Proofs.Ytjohjiphjmcolaa
