/- Package twin: Take. -/
import Derived.Test.YtjohjiphjmcolaaTwC
import Derived.Test.YtjohjiphjmcolaaTwRep
namespace Go.Proofs.Ytjohjiphjmcolaa
open Go.AI
set_option maxHeartbeats 2000000
set_option maxRecDepth 100000
set_option linter.unusedSimpArgs false
set_option linter.unusedVariables false
attribute [local simp] wpA wpX RunA RunD runF foot footP footB idsA bare apart runL step1 gsel_f gsel_t gsel_s res_same res_and1 res_and2 res_and3 res_and4 res_and5 res_and6 res_false res_true res_v res_ptr res_fptr res_osl res_xsl soft aAppendZ aCap ovlI ovlJ res_fsl res_esl res_agg res_tup res_fn res_junk res_anyb aPick hk imp_left iteV dstOk guardOk astep astepE AI.ev AI.look AI.put envOf aBox cellsOf allOne allOneA oneA Value.oneCell' Value.cells newObj' aFieldAddr aLoad obj readAt thenA blockA condA retA resA tupA view hot hotC hotR depthV cAgg cInt cBool mkAgg allV aAlloc aBuild fillA writeAt aStore isAggA aField idx aIndexAddr aIndex bnd aSlice aExtract aLen aBuiltin aCall isStatic eqAgg eqTy eqC ev_add ev_sub ev_mul ev_quo ev_rem ev_and ev_or ev_xor ev_andNot ev_shl ev_shr ev_eql ev_neq ev_lss ev_leq ev_gtr ev_geq ev_agg w64 wu32 wu8 ev_not ev_neg Cod.plain RCod.plain argM finM cold coldC coldR goInt intDec boolDec aggDec Weaker heapW lowA lowC Again slDec undef aBuildSlice setRows aAppend rowsOf aMakeSlice aClear aCopy softer_self softer_nil valsOf ev_min2 ev_max2 hotR_set hotR_append take_map_set irow_cold irow_mapM irow_mapMc irow_view irow_viewc irow_hotR irow_ren irow_renc irow_low WeakT heapT thOf ren renC AgainT NextF NextT fnDec cFn rNil selfLt natLt0 natLt1 getLastMap frame0 frame1 own0 own1 argG finG tau tauI tauO tauC bareA bareC bareH irow_tau irow_tauc irow_bare irow_flat irow_bareR ownA_nil ownT_nil ownA_c ownT_c ownA_s ownT_s takeMapLen footC plainA noId noIdC cloneF frame0F frame1F insertF replaceI replaceF cellDec rCell fpDec cFp rTwo deleteF RunR RunE runFT footAt hotR_cat tmodN fxSz2 fxBy2 fxAg2 fxZe2 fxSl2 fxAr2 fxPl2 fxSz3 fxBy3 fxAg3 fxZe3 fxSl3 fxAr3 fxPl3 fxSz4 fxBy4 fxAg4 fxZe4 fxSl4 fxAr4 fxPl4 fxSz5 fxBy5 fxAg5 fxZe5 fxSl5 fxAr5 fxPl5 fxSz9 fxBy9 fxAg9 fxZe9 fxSl9 fxAr9 fxPl9 fxSz12 fxBy12 fxAg12 fxZe12 fxSl12 fxAr12 fxPl12 fxSz13 fxBy13 fxAg13 fxZe13 fxSl13 fxAr13 fxFi13x0 fxFi13x1 fxPl13 fxSz21 fxBy21 fxAg21 fxZe21 fxSl21 fxAr21 fxPl21 fxSz22 fxBy22 fxAg22 fxZe22 fxSl22 fxAr22 fxPl22 fxSz23 fxBy23 fxAg23 fxZe23 fxSl23 fxAr23 fxFi23x0 fxFi23x1 fxFi23x2 fxPl23 fxSz24 fxBy24 fxAg24 fxZe24 fxSl24 fxAr24 fxFi24x0 fxFi24x1 fxFi24x2 fxPl24 fxSz25 fxBy25 fxAg25 fxZe25 fxSl25 fxAr25 fxPl25 fxSz42 fxBy42 fxAg42 fxZe42 fxSl42 fxAr42 fxPl42 fxSz43 fxBy43 fxAg43 fxZe43 fxSl43 fxAr43 fxFi43x0 fxFi43x1 fxPl43 fxSz44 fxBy44 fxAg44 fxZe44 fxSl44 fxAr44 fxFi44x0 fxFi44x1 fxPl44 fxSz48 fxBy48 fxAg48 fxZe48 fxSl48 fxAr48 fxFi48x0 fxFi48x1 fxPl48 fxSz49 fxBy49 fxAg49 fxZe49 fxSl49 fxAr49 fxFi49x0 fxFi49x1 fxPl49 fxSz53 fxBy53 fxAg53 fxZe53 fxSl53 fxAr53 fxPl53 fxSz59 fxBy59 fxAg59 fxZe59 fxSl59 fxAr59 fxPl59 fxSz68 fxBy68 fxAg68 fxZe68 fxSl68 fxAr68 fxPl68 fxSz85 fxBy85 fxAg85 fxZe85 fxSl85 fxAr85 fxPl85 fxSz91 fxBy91 fxAg91 fxZe91 fxSl91 fxAr91 fxPl91 fxSz92 fxBy92 fxAg92 fxZe92 fxSl92 fxAr92 fxFi92x0 fxPl92 fxSz95 fxBy95 fxAg95 fxZe95 fxSl95 fxAr95 fxPl95 fxSz99 fxBy99 fxAg99 fxZe99 fxSl99 fxAr99 fxPl99 fxSz104 fxBy104 fxAg104 fxZe104 fxSl104 fxAr104 fxPl104 fxEq24 fxEq49 fxEq53 fxCv2x2 fxCv2x3 fxCv2x5 fxCv2x12 fxCv2x21 fxCv2x25 fxCv2x95 fxCv3x2 fxCv3x3 fxCv3x5 fxCv3x12 fxCv3x21 fxCv3x25 fxCv3x95 fxCv5x2 fxCv5x3 fxCv5x5 fxCv5x12 fxCv5x21 fxCv5x25 fxCv5x95 fxCv12x2 fxCv12x3 fxCv12x5 fxCv12x12 fxCv12x21 fxCv12x25 fxCv12x95 fxCv21x2 fxCv21x3 fxCv21x5 fxCv21x12 fxCv21x21 fxCv21x25 fxCv21x95 fxCv25x2 fxCv25x3 fxCv25x5 fxCv25x12 fxCv25x21 fxCv25x25 fxCv25x95 fxCv95x2 fxCv95x3 fxCv95x5 fxCv95x12 fxCv95x21 fxCv95x25 fxCv95x95 fxEb4 fxNb4 fxLt9 fxLn22 fxNe22 fxNn22 fxLn42 fxNe42 fxNn42 fxLn59 fxNe59 fxNn59 fxLn68 fxNe68 fxNn68 fxFn3 fxFm3 fxFb3 fxFi3 fxFj3 fxFn4 fxFm4 fxFb4 fxFi4 fxFj4 fxFn5 fxFm5 fxFb5 fxFi5 fxFj5 fxFn6 fxFm6 fxFb6 fxFi6 fxFj6 fxFn7 fxFm7 fxFb7 fxFi7 fxFj7 fxFn8 fxFm8 fxFb8 fxFi8 fxFj8 fxFn9 fxFm9 fxFb9 fxFi9 fxFj9 fxFn10 fxFm10 fxFb10 fxFi10 fxFj10 fxFn11 fxFm11 fxFb11 fxFi11 fxFj11 fxFn12 fxFm12 fxFb12 fxFi12 fxFj12 fxFn13 fxFm13 fxFb13 fxFi13 fxFj13 fxFn14 fxFm14 fxFb14 fxFi14 fxFj14 fxFn15 fxFm15 fxFb15 fxFi15 fxFj15 fxFn16 fxFm16 fxFb16 fxFi16 fxFj16 fxFn17 fxFm17 fxFb17 fxFi17 fxFj17 fxFn18 fxFm18 fxFb18 fxFi18 fxFj18 fxFn19 fxFm19 fxFb19 fxFi19 fxFj19 fxFn20 fxFm20 fxFb20 fxFi20 fxFj20 fxFn21 fxFm21 fxFb21 fxFi21 fxFj21 fxFn22 fxFm22 fxFb22 fxFi22 fxFj22 fxFn23 fxFm23 fxFb23 fxFi23 fxFj23 fxFn24 fxFm24 fxFb24 fxFi24 fxFj24 fxFn25 fxFm25 fxFb25 fxFi25 fxFj25 fxFn26 fxFm26 fxFb26 fxFi26 fxFj26 fxFn27 fxFm27 fxFb27 fxFi27 fxFj27 fxFn28 fxFm28 fxFb28 fxFi28 fxFj28 fxFn29 fxFm29 fxFb29 fxFi29 fxFj29 fxFn30 fxFm30 fxFb30 fxFi30 fxFj30 fxFn31 fxFm31 fxFb31 fxFi31 fxFj31 fxFn32 fxFm32 fxFb32 fxFi32 fxFj32 fxFn33 fxFm33 fxFb33 fxFi33 fxFj33 fxFn34 fxFm34 fxFb34 fxFi34 fxFj34 fxFn35 fxFm35 fxFb35 fxFi35 fxFj35 fxFn36 fxFm36 fxFb36 fxFi36 fxFj36 fxFn37 fxFm37 fxFb37 fxFi37 fxFj37 fxFn38 fxFm38 fxFb38 fxFi38 fxFj38 fxFn39 fxFm39 fxFb39 fxFi39 fxFj39 fxFn40 fxFm40 fxFb40 fxFi40 fxFj40 fxFn41 fxFm41 fxFb41 fxFi41 fxFj41 fxFn42 fxFm42 fxFb42 fxFi42 fxFj42 fxFn43 fxFm43 fxFb43 fxFi43 fxFj43 fxFn44 fxFm44 fxFb44 fxFi44 fxFj44 fxFn45 fxFm45 fxFb45 fxFi45 fxFj45 fxFn46 fxFm46 fxFb46 fxFi46 fxFj46 fxFn47 fxFm47 fxFb47 fxFi47 fxFj47 fxFn48 fxFm48 fxFb48 fxFi48 fxFj48 fxFn49 fxFm49 fxFb49 fxFi49 fxFj49 fxFn50 fxFm50 fxFn51 fxFm51 fxFb51 fxFi51 fxFj51 fxFn52 fxFm52 fxFb52 fxFi52 fxFj52 fxFn53 fxFm53 fxFn54 fxFm54 fxFb54 fxFi54 fxFj54 fxFn55 fxFm55 fxFb55 fxFi55 fxFj55 fxFn56 fxFm56 fxFb56 fxFi56 fxFj56 fxFn57 fxFm57 fxFb57 fxFi57 fxFj57 fxFn58 fxFm58 fxFb58 fxFi58 fxFj58
attribute [local simp] Rm.eta Rm.cold Rm.mapM Rm.mapMc Rm.view Rm.viewc Rm.hotR Rm.ren Rm.renc Rm.low Rm.tau Rm.tauc Rm.bare Rm.flat Rm.flat1 Rm.mapMt Rm.mapMd Rm.coldt Rm.coldd Rm.hotRt Rm.hotRd
attribute [local simp] Twn.eta Twn.dec_row Twn.dec_hrow Twn.cold Twn.hcold Twn.mapM Twn.mapMc Twn.hmapM Twn.hmapMc Twn.view Twn.viewc Twn.hview Twn.hviewc Twn.hotR Twn.ren Twn.renc Twn.low
theorem rmClone : InlOk Try.prog 40 (cloneI 2) := by
  refine inl_soft Try.func40 rfl ?_
  intro args H r H' hr
  obtain ⟨o, rows, rfl, hl, hc⟩ := cloneI_some hr
  refine ⟨by simp [Try.ntmps40], wpA_sound noOrc_ok fxMix _ _ _ _ (by kernel_rfl) ?_⟩
  rcases hc with ⟨rfl, rfl, rfl⟩ | ⟨h0, rfl, rfl⟩
  · simp [Try.ntmps40, Try.results40, noOrc]
  · simp [Try.ntmps40, Try.results40, h0, hl, noOrc]
/-- the first of the smallest that are large enough -/
def bestGo (l : List Rm) (o : Int) : Nat → Int
  | 0 => -1
  | k + 1 => match l[k]? with
    | some r => if o ≤ r.order ∧ (bestGo l o k < 0 ∨ r.order < (l[(bestGo l o k).toNat]?.getD r).order) then k else bestGo l o k
    | none => bestGo l o k
theorem bestGo_ok (l : List Rm) (o : Int) : ∀ k, k ≤ l.length → (bestGo l o k = -1 ∧ ∀ i r, i < k → l[i]? = some r → r.order < o) ∨ ∃ (n : Nat) (r : Rm), bestGo l o k = n ∧ n < k ∧ l[n]? = some r ∧ o ≤ r.order := by
  intro k
  induction k with
  | zero => intro _; left; simp [bestGo]
  | succ k ih =>
    intro hk
    have hg : l[k]? = some l[k] := List.getElem?_eq_getElem hk
    simp only [bestGo, hg]
    split
    · rename_i h
      exact .inr ⟨k, l[k], rfl, by omega, hg, h.1⟩
    · rename_i h
      rcases ih (by omega) with ⟨h1, h2⟩ | ⟨n, r, h1, h2, h3, h4⟩
      · left
        refine ⟨h1, fun i r hi hr => ?_⟩
        by_cases hik : i = k
        · subst hik
          rw [hg] at hr
          simp at hr
          subst hr
          rw [h1] at h
          simp at h
          omega
        · exact h2 i r (by omega) hr
      · exact .inr ⟨n, r, h1, by omega, h3, h4⟩
theorem leftR_succ (a o : Int) (n : Nat) : leftR a o (n + 1) = leftR a o n ++ [⟨a + pw (o + n), o + n⟩] := by
  induction n generalizing o with
  | zero => simp [leftR]
  | succ n ih =>
    rw [leftR, ih (o + 1), leftR]
    simp
    constructor
    · congr 1; omega
    · omega
theorem leftR_len (a o : Int) (n : Nat) : (leftR a o n).length = n := by
  induction n generalizing o with
  | zero => rfl
  | succ n ih => simp [leftR, ih]
def twTake (t : Twn) (o : Int) : Except Int (Twn × Int) :=
  if twCheck t = 0 then
    if o < 0 ∨ t.order < o then .error 1
    else if bestGo t.free o t.free.length < 0 then .error 6
    else match t.free[(bestGo t.free o t.free.length).toNat]? with
      | some r => .ok (⟨t.order, t.free.take (bestGo t.free o t.free.length).toNat ++ (leftR r.at_ o (r.order - o).toNat ++ t.free.drop ((bestGo t.free o t.free.length).toNat + 1))⟩, r.at_)
      | none => .error 6
  else .error (twCheck t)
def takeE : Except Int (Twn × Int) → AVal
  | .ok (t, a) => .tup [.agg t.hrow, .v (.int .i64 a), .v (.int .i64 0)]
  | .error e => .v (.tuple #[.agg #[.int .i64 0, .slice none 0 0], .int .i64 0, .int .i64 e])
theorem twTake_pure : PureOk Try.prog 25 (argM (cAgg rTwn) fun t => argM (cInt .i64) fun o => finM (some (takeE (twTake t o)))) := by
  refine pure2 Try.func25 rfl ?_
  rintro t o r hr
  simp only [Option.some.injEq] at hr
  subst hr
  refine body_gen ((((noOrc_ok.withP twCheck_pure).withIF rmClone clone_loc).withIF rmRep replace_loc).withD (fun i => if i = 21 then [(1,4),(1,9),(4,12),(9,12),(12,13)] else [])) fxMix (by kernel_rfl) (by simp [Try.ntmps25]) ?_
  intro C cP cI cN cD cF cA
  have cp0 := orcP twCheck_pure (C := C) (by rw [cP]; rfl)
  have cn0 := orcI rmClone (C := C) (by rw [cN]; rfl)
  have cn1 := orcI rmRep (C := C) (by rw [cN]; rfl)
  replace cI := fun g => congrFun cI g
  simp only [Orc.withP, Orc.withI, Orc.withF, Orc.withD, Orc.withA, noOrc] at cI
  replace cD : C.dyn = fun i => if i = 21 then [(1,4),(1,9),(4,12),(9,12),(12,13)] else [] := cD
  replace cF := fun g => congrFun cF g
  simp only [Orc.withP, Orc.withI, Orc.withF, Orc.withD, Orc.withA, noOrc] at cF
  replace cA : C.alt = fun _ => [] := cA
  clear cP cN
  obtain ⟨N, l⟩ := t
  unfold twTake
  simp only
  by_cases h0 : twCheck ⟨N, l⟩ = 0
  case neg => simp [Try.ntmps25, Try.results25, cSl, cp0, cn0, cn1, cI, cD, cF, cA, rTwn, twnDec, rRm, Twn.row, h0, takeE]
  obtain ⟨g1, g2, g3⟩ := twCheck_ok.1 h0
  simp only at g1 g2 g3
  have hl := okl_len g2 g3
  have pN := pw_le64 g2
  by_cases c1 : o < 0
  · simp [Try.ntmps25, Try.results25, cSl, cp0, cn0, cn1, cI, cD, cF, cA, rTwn, twnDec, rRm, Twn.row, h0, c1, takeE]
  by_cases c2 : N < o
  · simp [Try.ntmps25, Try.results25, cSl, cp0, cn0, cn1, cI, cD, cF, cA, rTwn, twnDec, rRm, Twn.row, h0, c1, c2, takeE]
  simp [Try.ntmps25, Try.results25, cSl, cp0, cn0, cn1, cI, cD, cF, cA, rTwn, twnDec, rRm, Twn.row, h0, c1, c2]
  refine loop_for l.length (fun k (_ : Unit) => ([(1, .v (.int .i64 o)), (2, .ptr 0 2 0 0), (4, .ptr 1 2 0 0), (8, .v (.int .i64 (bestGo l o k))), (30, .fsl false 2 (l.map Rm.row)), (31, .v (.int .i64 l.length)), (32, .v (.int .i64 k))], [some (2, [Twn.row ⟨N, l⟩]), some (2, [[.v (.int .i64 0), .v (.slice none 0 0)]])])) (fun k _ => True) () (by omega) trivial (by simp [Twn.row, bestGo]) ?_ ?_
  · rintro k _ hk _ hw
    have hg : l[k]? = some l[k] := List.getElem?_eq_getElem hk
    have hb : bestGo l o (k + 1) = if o ≤ l[k].order ∧ (bestGo l o k < 0 ∨ l[k].order < (l[(bestGo l o k).toNat]?.getD l[k]).order) then (k : Int) else bestGo l o k := by simp [bestGo, hg]
    by_cases q1 : o ≤ l[k].order
    · rcases bestGo_ok l o k (by omega) with ⟨h1, h2⟩ | ⟨n, r, h1, h2, h3, h4⟩
      · rw [h1] at hb
        simp [q1] at hb
        simp [Try.ntmps25, Try.results25, cSl, cp0, cn0, cn1, cI, cD, cF, cA, hk, hw, Rm.row, Twn.row, q1, h1, hb]
      · have hn : n < l.length := by omega
        have h3' : l[n] = r := by
          have := List.getElem?_eq_getElem hn
          rw [this] at h3
          simpa using h3
        have hneg : ¬ ((n : Int) < 0) := by omega
        rw [h1] at hb
        simp only [q1, true_and, hneg, false_or, Int.toNat_natCast, h3, Option.getD_some] at hb
        by_cases q2 : l[k].order < r.order
        · rw [if_pos q2] at hb
          simp [Try.ntmps25, Try.results25, cSl, cp0, cn0, cn1, cI, cD, cF, cA, hk, hw, hn, Rm.row, Twn.row, q1, h1, hb, h3', q2, hneg]
        · rw [if_neg q2] at hb
          simp [Try.ntmps25, Try.results25, cSl, cp0, cn0, cn1, cI, cD, cF, cA, hk, hw, hn, Rm.row, Twn.row, q1, h1, hb, h3', q2, hneg]
    · simp [q1] at hb
      simp [Try.ntmps25, Try.results25, cSl, cp0, cn0, cn1, cI, cD, cF, cA, hk, hw, Rm.row, Twn.row, q1, hb]
  · rintro _ _
    rcases bestGo_ok l o l.length (Nat.le_refl _) with ⟨h1, h2⟩ | ⟨n, r, h1, h2, h3, h4⟩
    · simp [Try.ntmps25, Try.results25, cSl, cp0, cn0, cn1, cI, cD, cF, cA, h1, takeE, Twn.row]
    · have h3' : l[n] = r := by
        have := List.getElem?_eq_getElem h2
        rw [this] at h3
        simpa using h3
      have hneg : ¬ ((n : Int) < 0) := by omega
      have fr := g3.1 r (by rw [← h3']; exact List.getElem_mem h2)
      have o1 : r.order ≤ 6 := by have := fr.2.1; omega
      have hpr := pw_le64 o1
      have hrend := fr.2.2.2.1
      simp only [Rm.end_] at hrend
      simp [Try.ntmps25, Try.results25, cSl, cp0, cn0, cn1, cI, cD, cF, cA, h1, Twn.row, Rm.row, h2, h3, h3', hneg]
      generalize hn : (r.order - o).toNat = m at *
      refine loop_forT m (fun k (left : List Rm) => ([(2, .ptr 0 2 0 0), (4, .ptr 1 2 0 0), (8, .v (.int .i64 n)), (11, .ptr 2 2 0 0), (12, ownA 3 2 (left.map Rm.row)), (13, .v (.int .i64 (o + k)))], [some (2, [Twn.row ⟨N, l⟩]), some (2, [[.v (.int .i64 0), .v (.slice none 0 0)]]), some (2, [Rm.row r])] ++ ownT 2 (left.map Rm.row))) (fun k left => left = leftR r.at_ o k) [] [0, 1, 2] (by omega) (by simp [leftR]) (by simp [Twn.row, Rm.row, ownA_nil, ownT_nil]) ?_ ?_
      · rintro k left hk hleft hw
        have hs := leftR_succ r.at_ o k
        rw [← hleft] at hs
        have hll := leftR_len r.at_ o k
        rw [← hleft] at hll
        have d0 : 0 ≤ o + (k : Int) := by omega
        have d6 : o + (k : Int) ≤ 6 := by omega
        have d1 := ishl_pw d0 d6
        have d2 := pw_le64 d6
        have d3 := pw_pos (o + k)
        have dlt : o + (k : Int) < r.order := by omega
        have fr3 := fr.2.2.1
        have fr4 := pw_pos r.order
        have w1 : IntKind.i64.wrap (r.at_ + pw (o + k)) = r.at_ + pw (o + k) := w64 (by omega) (by omega)
        have w2 : IntKind.i64.wrap (o + k + 1) = o + ((k + 1 : Nat) : Int) := by rw [w64 (by omega) (by omega)]; omega
        have n1 : ¬ (left.length + 1 ≤ left.length) := by omega
        have n2 : left.length + 1 ≤ 4294967296 := by omega
        by_cases ho : left = []
        · subst ho
          simp [Try.ntmps25, Try.results25, cSl, cp0, cn0, cn1, cI, cD, cF, cA, Rm.row, Twn.row, dlt, d0, d1, w1, w2, hs, ownA_nil, ownT_nil]
          exact ⟨[0, 1, 2, 4], by simp [ownA, ownT, Rm.row]⟩
        · have o1 : ownA 3 2 (left.map Rm.row) = .osl 3 2 0 left.length left.length := by simp [ownA, ho]
          have o2 : ownT 2 (left.map Rm.row) = [some (2, left.map Rm.row)] := by simp [ownT, ho]
          simp [Try.ntmps25, Try.results25, cSl, cp0, cn0, cn1, cI, cD, cF, cA, Rm.row, Twn.row, dlt, d0, d1, w1, w2, hs, o1, o2, n1, n2]
          exact ⟨[0, 1, 2, 5], by simp [ownA, ownT, Rm.row]⟩
      · rintro left hleft
        have hll := leftR_len r.at_ o m
        rw [← hleft] at hll
        have hm : o + (m : Int) = r.order := by omega
        have hlne : ¬ l = [] := by rintro rfl; simp at h2
        have hl2 : l.length ≤ 4294967296 := by omega
        have hl3 : l.length ≤ 1048576 := by omega
        have hw1 : IntKind.i64.wrap ((n : Int) + 1) = (n : Int) + 1 := w64 (by omega) (by omega)
        rw [← hleft]
        by_cases ho : left = []
        · subst ho
          have he : (l.map Rm.row).eraseIdx n = (l.take n ++ l.drop (n + 1)).map Rm.row := by rw [List.eraseIdx_eq_take_drop_succ]; simp
          have t1 : l.length ≤ min n l.length + (l.length - (n + 1)) + 1 := by omega
          have t2 : List.take (l.length - 1) (List.take n (List.map Rm.row l) ++ List.drop (n + 1) (List.map Rm.row l)) = List.take n (List.map Rm.row l) ++ List.drop (n + 1) (List.map Rm.row l) := List.take_of_length_le (by simp; omega)
          simp [Try.ntmps25, Try.results25, cSl, cp0, cn0, cn1, cI, cD, cF, cA, Rm.row, Twn.row, Twn.hrow, hm, ownA_nil, ownT_nil, cloneI, hlne, hl2, hl3, h2, hw1, takeE, he, t1, t2]
        · have o1 : ownA 3 2 (left.map Rm.row) = .osl 3 2 0 left.length left.length := by simp [ownA, ho]
          have o2 : ownT 2 (left.map Rm.row) = [some (2, left.map Rm.row)] := by simp [ownT, ho]
          have hpos : 0 < left.length := List.length_pos_iff.2 ho
          have hl4 : left.length ≤ 1048576 := by omega
          have t1 : l.length - 1 + left.length ≤ min n l.length + (left.length + (l.length - (n + 1))) := by omega
          have t2 : List.take (l.length - 1 + left.length) (List.take n (List.map Rm.row l) ++ (List.map Rm.row left ++ List.drop (n + 1) (List.map Rm.row l))) = List.take n (List.map Rm.row l) ++ (List.map Rm.row left ++ List.drop (n + 1) (List.map Rm.row l)) := List.take_of_length_le (by simp; omega)
          simp [Try.ntmps25, Try.results25, cSl, cp0, cn0, cn1, cI, cD, cF, cA, Rm.row, Twn.row, Twn.hrow, hm, o1, o2, cloneI, hlne, hl2, hl3, hl4, hpos, h2, hw1, takeE, t1, t2]
end Go.Proofs.Ytjohjiphjmcolaa
