/- Package area: areas laid. -/
import Derived.Test.YtjohjiphjmcolaaArA
namespace Go.Proofs.Ytjohjiphjmcolaa
open Go.AI
set_option maxHeartbeats 2000000
set_option linter.unusedSimpArgs false
set_option linter.unusedVariables false
attribute [local simp] wpA wpX RunA RunD runF foot footP bare apart runL step1 gsel_f gsel_t gsel_s res_same res_and1 res_and2 res_and3 res_and4 res_and5 res_and6 res_false res_true res_v res_ptr res_fptr res_osl res_xsl soft aAppendZ aCap ovlI res_fsl res_esl res_agg res_tup res_fn res_junk res_anyb aPick hk imp_left iteV dstOk guardOk astep astepE AI.ev AI.look AI.put envOf aBox cellsOf allOne allOneA oneA Value.oneCell' Value.cells newObj' aFieldAddr aLoad obj readAt thenA blockA condA retA resA tupA view hot hotC hotR depthV cAgg cInt cBool mkAgg allV aAlloc aBuild fillA writeAt aStore isAggA aField idx aIndexAddr aIndex bnd aSlice aExtract aLen aBuiltin aCall isStatic eqAgg eqTy eqC ev_add ev_sub ev_mul ev_quo ev_rem ev_and ev_or ev_xor ev_andNot ev_shl ev_shr ev_eql ev_neq ev_lss ev_leq ev_gtr ev_geq ev_agg w64 wu32 wu8 ev_not ev_neg Cod.plain RCod.plain argM finM cold coldC coldR goInt intDec boolDec aggDec Weaker heapW lowA lowC Again slDec undef aBuildSlice setRows aAppend rowsOf aMakeSlice aClear aCopy softer_self softer_nil valsOf ev_min2 ev_max2 hotR_set hotR_append take_map_set irow_cold irow_mapM irow_mapMc irow_view irow_viewc irow_hotR irow_ren irow_renc irow_low WeakT heapT thOf ren renC AgainT NextF NextT fnDec cFn rNil selfLt natLt0 natLt1 getLastMap frame0 frame1 own0 own1 argG finG tau tauI tauO tauC bareA bareC bareH irow_tau irow_tauc irow_bare irow_flat irow_bareR ownA_nil ownT_nil ownA_c ownT_c ownA_s ownT_s takeMapLen footC plainA noId noIdC cloneF frame0F frame1F insertF fxSz2 fxBy2 fxAg2 fxZe2 fxSl2 fxAr2 fxPl2 fxSz3 fxBy3 fxAg3 fxZe3 fxSl3 fxAr3 fxPl3 fxSz4 fxBy4 fxAg4 fxZe4 fxSl4 fxAr4 fxPl4 fxSz5 fxBy5 fxAg5 fxZe5 fxSl5 fxAr5 fxPl5 fxSz9 fxBy9 fxAg9 fxZe9 fxSl9 fxAr9 fxPl9 fxSz12 fxBy12 fxAg12 fxZe12 fxSl12 fxAr12 fxPl12 fxSz13 fxBy13 fxAg13 fxZe13 fxSl13 fxAr13 fxFi13x0 fxFi13x1 fxPl13 fxSz21 fxBy21 fxAg21 fxZe21 fxSl21 fxAr21 fxPl21 fxSz22 fxBy22 fxAg22 fxZe22 fxSl22 fxAr22 fxPl22 fxSz23 fxBy23 fxAg23 fxZe23 fxSl23 fxAr23 fxFi23x0 fxFi23x1 fxFi23x2 fxPl23 fxSz24 fxBy24 fxAg24 fxZe24 fxSl24 fxAr24 fxFi24x0 fxFi24x1 fxFi24x2 fxPl24 fxSz25 fxBy25 fxAg25 fxZe25 fxSl25 fxAr25 fxPl25 fxSz42 fxBy42 fxAg42 fxZe42 fxSl42 fxAr42 fxPl42 fxSz43 fxBy43 fxAg43 fxZe43 fxSl43 fxAr43 fxFi43x0 fxFi43x1 fxPl43 fxSz44 fxBy44 fxAg44 fxZe44 fxSl44 fxAr44 fxFi44x0 fxFi44x1 fxPl44 fxSz48 fxBy48 fxAg48 fxZe48 fxSl48 fxAr48 fxFi48x0 fxFi48x1 fxPl48 fxSz49 fxBy49 fxAg49 fxZe49 fxSl49 fxAr49 fxFi49x0 fxFi49x1 fxPl49 fxSz53 fxBy53 fxAg53 fxZe53 fxSl53 fxAr53 fxPl53 fxSz59 fxBy59 fxAg59 fxZe59 fxSl59 fxAr59 fxPl59 fxSz68 fxBy68 fxAg68 fxZe68 fxSl68 fxAr68 fxPl68 fxSz85 fxBy85 fxAg85 fxZe85 fxSl85 fxAr85 fxPl85 fxSz91 fxBy91 fxAg91 fxZe91 fxSl91 fxAr91 fxPl91 fxSz92 fxBy92 fxAg92 fxZe92 fxSl92 fxAr92 fxFi92x0 fxPl92 fxSz95 fxBy95 fxAg95 fxZe95 fxSl95 fxAr95 fxPl95 fxSz99 fxBy99 fxAg99 fxZe99 fxSl99 fxAr99 fxPl99 fxSz104 fxBy104 fxAg104 fxZe104 fxSl104 fxAr104 fxPl104 fxEq24 fxEq49 fxEq53 fxCv2x2 fxCv2x3 fxCv2x5 fxCv2x12 fxCv2x21 fxCv2x25 fxCv2x95 fxCv3x2 fxCv3x3 fxCv3x5 fxCv3x12 fxCv3x21 fxCv3x25 fxCv3x95 fxCv5x2 fxCv5x3 fxCv5x5 fxCv5x12 fxCv5x21 fxCv5x25 fxCv5x95 fxCv12x2 fxCv12x3 fxCv12x5 fxCv12x12 fxCv12x21 fxCv12x25 fxCv12x95 fxCv21x2 fxCv21x3 fxCv21x5 fxCv21x12 fxCv21x21 fxCv21x25 fxCv21x95 fxCv25x2 fxCv25x3 fxCv25x5 fxCv25x12 fxCv25x21 fxCv25x25 fxCv25x95 fxCv95x2 fxCv95x3 fxCv95x5 fxCv95x12 fxCv95x21 fxCv95x25 fxCv95x95 fxEb4 fxNb4 fxLt9 fxLn22 fxNe22 fxNn22 fxLn42 fxNe42 fxNn42 fxLn59 fxNe59 fxNn59 fxLn68 fxNe68 fxNn68 fxFn3 fxFm3 fxFb3 fxFi3 fxFj3 fxFn4 fxFm4 fxFb4 fxFi4 fxFj4 fxFn5 fxFm5 fxFb5 fxFi5 fxFj5 fxFn6 fxFm6 fxFb6 fxFi6 fxFj6 fxFn7 fxFm7 fxFb7 fxFi7 fxFj7 fxFn8 fxFm8 fxFb8 fxFi8 fxFj8 fxFn9 fxFm9 fxFb9 fxFi9 fxFj9 fxFn10 fxFm10 fxFb10 fxFi10 fxFj10 fxFn11 fxFm11 fxFb11 fxFi11 fxFj11 fxFn12 fxFm12 fxFb12 fxFi12 fxFj12 fxFn13 fxFm13 fxFb13 fxFi13 fxFj13 fxFn14 fxFm14 fxFb14 fxFi14 fxFj14 fxFn15 fxFm15 fxFb15 fxFi15 fxFj15 fxFn16 fxFm16 fxFb16 fxFi16 fxFj16 fxFn17 fxFm17 fxFb17 fxFi17 fxFj17 fxFn18 fxFm18 fxFb18 fxFi18 fxFj18 fxFn19 fxFm19 fxFb19 fxFi19 fxFj19 fxFn20 fxFm20 fxFb20 fxFi20 fxFj20 fxFn21 fxFm21 fxFb21 fxFi21 fxFj21 fxFn22 fxFm22 fxFb22 fxFi22 fxFj22 fxFn23 fxFm23 fxFb23 fxFi23 fxFj23 fxFn24 fxFm24 fxFb24 fxFi24 fxFj24 fxFn25 fxFm25 fxFb25 fxFi25 fxFj25 fxFn26 fxFm26 fxFb26 fxFi26 fxFj26 fxFn27 fxFm27 fxFb27 fxFi27 fxFj27 fxFn28 fxFm28 fxFb28 fxFi28 fxFj28 fxFn29 fxFm29 fxFb29 fxFi29 fxFj29 fxFn30 fxFm30 fxFb30 fxFi30 fxFj30 fxFn31 fxFm31 fxFb31 fxFi31 fxFj31 fxFn32 fxFm32 fxFb32 fxFi32 fxFj32 fxFn33 fxFm33 fxFb33 fxFi33 fxFj33 fxFn34 fxFm34 fxFb34 fxFi34 fxFj34 fxFn35 fxFm35 fxFb35 fxFi35 fxFj35 fxFn36 fxFm36 fxFb36 fxFi36 fxFj36 fxFn37 fxFm37 fxFb37 fxFi37 fxFj37 fxFn38 fxFm38 fxFb38 fxFi38 fxFj38 fxFn39 fxFm39 fxFb39 fxFi39 fxFj39 fxFn40 fxFm40 fxFb40 fxFi40 fxFj40 fxFn41 fxFm41 fxFb41 fxFi41 fxFj41 fxFn42 fxFm42 fxFb42 fxFi42 fxFj42 fxFn43 fxFm43 fxFb43 fxFi43 fxFj43 fxFn44 fxFm44 fxFb44 fxFi44 fxFj44 fxFn45 fxFm45 fxFb45 fxFi45 fxFj45 fxFn46 fxFm46 fxFb46 fxFi46 fxFj46 fxFn47 fxFm47 fxFb47 fxFi47 fxFj47 fxFn48 fxFm48 fxFb48 fxFi48 fxFj48 fxFn49 fxFm49 fxFb49 fxFi49 fxFj49 fxFn50 fxFm50 fxFn51 fxFm51 fxFb51 fxFi51 fxFj51 fxFn52 fxFm52 fxFb52 fxFi52 fxFj52 fxFn53 fxFm53 fxFn54 fxFm54 fxFb54 fxFi54 fxFj54 fxFn55 fxFm55 fxFb55 fxFi55 fxFj55 fxFn56 fxFm56 fxFb56 fxFi56 fxFj56 fxFn57 fxFm57 fxFb57 fxFi57 fxFj57 fxFn58 fxFm58 fxFb58 fxFi58 fxFj58
attribute [local simp] Ar.eta Ar.cold Ar.mapM Ar.mapMc Ar.view Ar.viewc Ar.hotR Ar.ren Ar.renc Ar.low Ar.tau Ar.tauc Ar.bare Ar.flat Ar.flat1
theorem arInsOv : InlOk Try.prog 53 ovlI := ovl_inl (t := 22) (r := 4) Try.func53 (by kernel_rfl) (by kernel_rfl) (by kernel_rfl) (by kernel_rfl) Try.underlying22 (sz := 3) (by kernel_rfl)
theorem arIns : InlOk Try.prog 46 (insertI 3) := by
  have hC := (noOrc_ok (P := Try.prog)).withI arInsOv
  refine insert_of Try.func46 rfl (by simp [Try.ntmps46]) ?_ ?_ ?_ ?_
  · intro H vid vr h1
    refine wpA_sound hC fxMix _ _ _ _ (by kernel_rfl) ?_
    have h1' := obj_get h1
    simp [Try.ntmps46, Try.results46, noOrc, Orc.withI, h1']
  · intro H id vid rows vr h1 h2 h3 h4 h5
    refine wpA_sound hC fxMix _ _ _ _ (by kernel_rfl) ?_
    have h1' := obj_get h1
    have h2' := obj_get h2
    have h6 : ¬ (rows.length + 1 ≤ rows.length) := by omega
    have h7 : rows.length ≤ 4294967295 := by omega
    simp [Try.ntmps46, Try.results46, noOrc, Orc.withI, h1', h2', h6, h7]
  · intro H id vid i rows vr h1 h2 h3 h4 h5 h6 h7
    refine wpA_sound hC fxMix _ _ _ _ (by kernel_rfl) ?_
    have h1' := obj_get h1
    have h2' := obj_get h2
    have w1 : IntKind.i64.wrap ((rows.length : Int) + 1) = ((rows.length + 1 : Nat) : Int) := by rw [w64 (by omega) (by omega)]; simp
    obtain ⟨k, hk⟩ : ∃ k, k = rows.length + 1 - i := ⟨_, rfl⟩
    have w2 : IntKind.i64.wrap ((rows.length : Int) + 1 - i) = (k : Int) := by rw [w64 (by omega) (by omega)]; omega
    have w3 : IntKind.i64.wrap ((i : Int) + 1) = ((i + 1 : Nat) : Int) := by rw [w64 (by omega) (by omega)]; simp
    have h8 : ¬ i = rows.length := by omega
    have g1 := (List.getElem?_eq_some_iff.1 h1').2
    have g2 := (List.getElem?_eq_some_iff.1 h2').2
    have b1 : ¬ (i : Int) = rows.length := by omega
    have b2 : ¬ (rows.length : Int) = i := by omega
    have e1 : ∀ l, (H ++ l)[vid]? = some (some (3, [vr])) := by intro l; rw [List.getElem?_append_left h5, h2']
    have e2 : ∀ l, (H ++ l)[id]? = some (some (3, rows)) := by intro l; rw [List.getElem?_append_left h4, h1']
    have d0 : ¬ vid = id := fun h => h3 h.symm
    have d1 : 0 < rows.length - i := by omega
    have d2 : min 1 (rows.length + 1 - i) = 1 := by omega
    have d3 : List.take (rows.length + 1 - i) [vr] = [vr] := List.take_of_length_le (by simp; omega)
    have d4 : rows.length - i ≤ rows.length + 1 - (i + 1) := by omega
    have d5 : min (rows.length - i) (rows.length + 1 - (i + 1)) = rows.length - i := by omega
    have d6 : i + 1 + (rows.length - i) ≤ i + (rows.length - i + 1) := by omega
    have d7 : i + 1 + (rows.length - i) ≤ rows.length + 1 := by omega
    have d8 : min (i + 1) rows.length = i + 1 := by omega
    have d9 : rows.length + 1 ≤ i + 1 + (rows.length - i) := by omega
    have f1 : ∀ X, List.take (i + 1) (List.take i rows ++ vr :: X) = List.take i rows ++ [vr] := by
      intro X
      have hl : (List.take i rows).length = i := by simp; omega
      rw [List.take_append, hl, List.take_of_length_le (by omega)]; simp
    have f2 : List.take (rows.length - i) (List.drop i rows) = List.drop i rows := List.take_of_length_le (by simp)
    have f7 : ∀ X, List.take i (List.take (i + 1) rows ++ X) = List.take i rows := by intro X; rw [List.take_append_of_le_length (by simp; omega), List.take_take]; congr 1; omega
    have f8 : ∀ X, List.drop (i + 1) (List.take (i + 1) rows ++ X) = X := by intro X; rw [List.drop_append_of_le_length (by simp; omega), List.drop_eq_nil_of_le (by simp; omega)]; rfl
    have c1 : (i : Int) ≤ rows.length + 1 := by omega
    have c2 : 0 ≤ (rows.length : Int) + 1 := by omega
    have c3 : (i : Int) + 1 ≤ rows.length + 1 := by omega
    have c4 : 0 ≤ (i : Int) + 1 := by omega
    have c5 : i + 1 ≤ rows.length + 1 := by omega
    have c6 : i + (rows.length + 1 - i) = rows.length + 1 := by omega
    have c7 : i + 1 + (rows.length + 1 - (i + 1)) = rows.length + 1 := by omega
    have a1 : i ≤ rows.length := by omega
    have a2 : i + k = rows.length + 1 := by omega
    have a3 : rows.length < rows.length + 1 := by omega
    have a4 : rows.length + 1 ≤ 4294967296 := by omega
    have a5 : i ≤ rows.length + 1 := by omega
    have a6 : min i rows.length = i := by omega
    have f3 : ∀ (z : Row), List.drop (i + 1 + (rows.length - i)) (List.take i rows ++ vr :: List.drop (i + 1) (List.take i rows ++ List.replicate k z)) = [] := by intro z; apply List.drop_eq_nil_of_le; simp; omega
    simp [Try.ntmps46, Try.results46, noOrc, Orc.withI, h1', h2', w1, w2, w3, h8, h4, h5, g1, g2, e1, e2, d0, d1, d2, d3, d4, d5, d6, d7, d8, d9, f1, f2, f3,  b1, b2, c1, c2, c3, c4, c5, c6, c7, a1, a2, a3, a4, a5, a6]
  · intro H id vid i cap rows vr jr h1 h2 h3 h4 h5 h6 h7 h8
    refine wpA_sound hC fxMix _ _ _ _ (by kernel_rfl) ?_
    have h1' := obj_get h1
    have h2' := obj_get h2
    have w1 : IntKind.i64.wrap ((rows.length : Int) + 1) = ((rows.length + 1 : Nat) : Int) := by rw [w64 (by omega) (by omega)]; simp
    have w3 : IntKind.i64.wrap ((i : Int) + 1) = ((i + 1 : Nat) : Int) := by rw [w64 (by omega) (by omega)]; simp
    have h9 : ¬ i = rows.length := by omega
    have g1 := (List.getElem?_eq_some_iff.1 h1').2
    have g2 := (List.getElem?_eq_some_iff.1 h2').2
    have b1 : ¬ (i : Int) = rows.length := by omega
    have b2 : ¬ (rows.length : Int) = i := by omega
    have e1 : ∀ l, (H ++ l)[vid]? = some (some (3, [vr])) := by intro l; rw [List.getElem?_append_left h5, h2']
    have e2 : ∀ l, (H ++ l)[id]? = some (some (3, rows ++ [jr])) := by intro l; rw [List.getElem?_append_left h4, h1']
    have d0 : ¬ vid = id := fun h => h3 h.symm
    have d1 : 0 < rows.length - i := by omega
    have d2 : min 1 (rows.length + 1 - i) = 1 := by omega
    have d3 : List.take (rows.length + 1 - i) [vr] = [vr] := List.take_of_length_le (by simp; omega)
    have d4 : rows.length - i ≤ rows.length + 1 - (i + 1) := by omega
    have d5 : min (rows.length - i) (rows.length + 1 - (i + 1)) = rows.length - i := by omega
    have d6 : i + 1 + (rows.length - i) ≤ i + (rows.length - i + 1) := by omega
    have d7 : i + 1 + (rows.length - i) ≤ rows.length + 1 := by omega
    have d8 : min (i + 1) rows.length = i + 1 := by omega
    have d9 : rows.length + 1 ≤ i + 1 + (rows.length - i) := by omega
    have f1 : ∀ X, List.take (i + 1) (List.take i rows ++ vr :: X) = List.take i rows ++ [vr] := by
      intro X
      have hl : (List.take i rows).length = i := by simp; omega
      rw [List.take_append, hl, List.take_of_length_le (by omega)]; simp
    have f2 : List.take (rows.length - i) (List.drop i rows) = List.drop i rows := List.take_of_length_le (by simp)
    have f7 : ∀ X, List.take i (List.take (i + 1) rows ++ X) = List.take i rows := by intro X; rw [List.take_append_of_le_length (by simp; omega), List.take_take]; congr 1; omega
    have f8 : ∀ X, List.drop (i + 1) (List.take (i + 1) rows ++ X) = X := by intro X; rw [List.drop_append_of_le_length (by simp; omega), List.drop_eq_nil_of_le (by simp; omega)]; rfl
    have c1 : (i : Int) ≤ rows.length + 1 := by omega
    have c2 : 0 ≤ (rows.length : Int) + 1 := by omega
    have c3 : (i : Int) + 1 ≤ rows.length + 1 := by omega
    have c4 : 0 ≤ (i : Int) + 1 := by omega
    have c5 : i + 1 ≤ rows.length + 1 := by omega
    have c6 : i + (rows.length + 1 - i) = rows.length + 1 := by omega
    have c7 : i + 1 + (rows.length + 1 - (i + 1)) = rows.length + 1 := by omega
    have a1 : i ≤ rows.length := by omega
    have a3 : ¬ cap < rows.length + 1 := by omega
    have a5 : i ≤ rows.length + 1 := by omega
    have a6 : min i rows.length = i := by omega
    have a7 : (rows.length : Int) + 1 ≤ cap := by omega
    have b3 : ¬ (cap : Int) < rows.length + 1 := by omega
    have a8 : i ≤ cap := by omega
    have f4 : List.take (rows.length - i) (List.take (rows.length + 1 - i) (List.drop i (rows ++ [jr]))) = List.drop i rows := by
      rw [List.take_take, List.drop_append_of_le_length a1, List.take_append_of_le_length (by simp; omega), List.take_of_length_le (by simp; omega)]
    have f5 : List.drop (i + 1 + (rows.length - i)) (rows ++ [jr]) = [] := List.drop_eq_nil_of_le (by simp; omega)
    have f6 : List.take (i + 1) (rows ++ [jr]) = List.take (i + 1) rows := List.take_append_of_le_length (by omega)
    simp [Try.ntmps46, Try.results46, noOrc, Orc.withI, h1', h2', w1, w3, h9, h4, h5, g1, g2, e1, e2, d0, d1, d2, d3, d4, d5, d6, d7, d8, d9, f2, f4, f5, f6, f7, f8, h3, List.getElem_set_ne,  b1, b2, c1, c2, c3, c4, c5, c6, c7, a1, a3, a5, a6, a7, a8, b3]

theorem tw_lt {α : Type} {p : α → Bool} {l : List α} {i : Nat} (h : i < (l.takeWhile p).length) : ∃ hl : i < l.length, p l[i] = true := by
  induction l generalizing i with
  | nil => simp at h
  | cons a l ih =>
    by_cases q : p a = true
    · simp only [List.takeWhile_cons, q, if_true, List.length_cons] at h
      cases i with
      | zero => exact ⟨by simp, by simpa using q⟩
      | succ i =>
        obtain ⟨h1, h2⟩ := ih (i := i) (by omega)
        exact ⟨by simp; exact h1, by simpa using h2⟩
    · simp [List.takeWhile_cons, q] at h
theorem tw_end {α : Type} (p : α → Bool) (l : List α) : (l.takeWhile p).length = l.length ∨ ∃ hl : (l.takeWhile p).length < l.length, p l[(l.takeWhile p).length] = false := by
  induction l with
  | nil => simp
  | cons a l ih =>
    by_cases q : p a = true
    · rcases ih with h | ⟨h1, h2⟩
      · left; simp [List.takeWhile_cons, q, h]
      · right
        refine ⟨by simp [List.takeWhile_cons, q]; exact h1, ?_⟩
        simpa [List.takeWhile_cons, q] using h2
    · right
      simp at q
      exact ⟨by simp [List.takeWhile_cons, q], by simp [List.takeWhile_cons, q]⟩
theorem tw_take {α : Type} (p : α → Bool) (l : List α) : l.take (l.takeWhile p).length = l.takeWhile p ∧ l.drop (l.takeWhile p).length = l.dropWhile p := by
  induction l with
  | nil => simp
  | cons a l ih =>
    by_cases q : p a = true
    · simp [List.takeWhile_cons, List.dropWhile_cons, q, ih]
    · simp [List.takeWhile_cons, List.dropWhile_cons, q]
theorem tw_le {α : Type} (p : α → Bool) (l : List α) : (l.takeWhile p).length ≤ l.length := by
  have := congrArg List.length (tw_take p l).1
  simp at this
  omega
theorem insA_rows (l : List Ar) (a : Ar) : (insA l a).map Ar.row = List.take (l.takeWhile (fun x => decide (x.page < a.page))).length (l.map Ar.row) ++ a.row :: List.drop (l.takeWhile (fun x => decide (x.page < a.page))).length (l.map Ar.row) := by
  obtain ⟨h1, h2⟩ := tw_take (fun x : Ar => decide (x.page < a.page)) l
  rw [← List.map_take, ← List.map_drop, h1, h2]
  simp [insA]
theorem insA_len (l : List Ar) (a : Ar) : (insA l a).length = l.length + 1 := by
  have h1 := congrArg List.length (insA_rows l a)
  have h2 := tw_le (fun x : Ar => decide (x.page < a.page)) l
  simp at h1
  omega
theorem insA_mem {l : List Ar} {a x : Ar} (h : x ∈ insA l a) : x = a ∨ x ∈ l := by
  simp only [insA, List.mem_append, List.mem_cons] at h
  rcases h with h | h | h
  · right; rw [← List.takeWhile_append_dropWhile (p := fun x : Ar => decide (x.page < a.page)) (l := l)]; exact List.mem_append_left _ h
  · exact .inl h
  · right; rw [← List.takeWhile_append_dropWhile (p := fun x : Ar => decide (x.page < a.page)) (l := l)]; exact List.mem_append_right _ h
theorem join1_len (out : List Ar) (a : Ar) : (join1 out a).length ≤ out.length + 1 ∧ join1 out a ≠ [] := by
  rcases List.eq_nil_or_concat out with rfl | ⟨o, b, rfl⟩
  · simp [join1]
  · simp [join1]
    split <;> simp
theorem fold_take {l : List Ar} {k : Nat} (hk : k < l.length) : (l.take (k + 1)).foldl join1 [] = join1 ((l.take k).foldl join1 []) l[k] := by
  rw [List.take_succ_eq_append_getElem hk, List.foldl_append]; rfl
theorem fold_len (l : List Ar) (out : List Ar) : (l.foldl join1 out).length ≤ out.length + l.length := by
  induction l generalizing out with
  | nil => simp
  | cons a l ih =>
    have := ih (join1 out a)
    have := (join1_len out a).1
    simp only [List.foldl_cons, List.length_cons]; omega
/-- bounds that joining keeps -/
def Bnd (B : Int) (l : List Ar) : Prop := ∀ x ∈ l, 0 ≤ x.page ∧ x.page < 64 ∧ 1 ≤ x.n ∧ x.n ≤ B
theorem join1_bnd {B : Int} {out : List Ar} {a : Ar} (h : Bnd B out) (ha : a.right = true) (hB : 0 ≤ B) : Bnd (B + 64) (join1 out a) := by
  have r := Ar.right_iff.1 ha
  rcases List.eq_nil_or_concat out with rfl | ⟨o, b, rfl⟩
  · intro x hx
    simp [join1] at hx
    subst hx; omega
  · simp only [List.concat_eq_append] at *
    have hb := h b (by simp)
    intro x hx
    simp only [join1, List.getLast?_append, List.getLast?_singleton, Option.some_or] at hx
    split at hx
    · simp at hx
      rcases hx with hx | rfl
      · have := h x (by simp [hx]); omega
      · simp; omega
    · simp at hx
      rcases hx with hx | rfl | rfl
      · have := h x (by simp [hx]); omega
      · omega
      · omega
theorem fold_bnd {l : List Ar} (h : ∀ x ∈ l, x.right = true) : Bnd (64 * l.length) (l.foldl join1 []) := by
  have : ∀ (l : List Ar) (B : Int) (out : List Ar), 0 ≤ B → Bnd B out → (∀ x ∈ l, x.right = true) → Bnd (B + 64 * l.length) (l.foldl join1 out) := by
    intro l
    induction l with
    | nil => intro B out _ hb _; simpa using hb
    | cons a l ih =>
      intro B out hB hb hl
      have := ih (B + 64) (join1 out a) (by omega) (join1_bnd hb (hl a (by simp)) hB) (fun x hx => hl x (by simp [hx]))
      have e : B + 64 * ((a :: l).length : Int) = B + 64 + 64 * (l.length : Int) := by simp; omega
      rw [e]; exact this
  have h2 := this l 0 [] (by omega) (by intro x hx; simp at hx) h
  simpa using h2

theorem lay_own : InlOk Try.prog 33 (own1 rAr (argG (cAgg rAr) fun a => finG (if a.right = true then some ((.osl 0 3 0 1 1, [some (3, [a.row])])) else none)) (fun l => argG (cAgg rAr) fun a => finG (if arCheck l = 0 ∧ a.right = true then some ((.osl 1 3 0 (layA l a).length (layA l a).length, [none, some (3, (layA l a).map Ar.row)])) else none))) := by
  refine own1_1 Ar.exact Try.func33 rfl ?_ ?_
  · rintro a r H' hr
    by_cases hc : a.right = true
    case neg => rw [if_neg hc] at hr; cases hr
    rw [if_pos hc] at hr
    simp only [Option.some.injEq, Prod.mk.injEq] at hr
    obtain ⟨rfl, rfl⟩ := hr
    refine bodyI_of (noOrc_ok.withI arIns) fxMix (by kernel_rfl) (by simp [Try.ntmps33]) ?_
    intro C cP cI cN cD cF
    have cn0 := orcI arIns (C := C) (by rw [cN]; rfl)
    replace cI := fun g => congrFun cI g
    simp only [Orc.withP, Orc.withI, Orc.withF, Orc.withD, noOrc] at cI
    replace cD : C.dyn = fun _ => [] := cD
    clear cP cN cF
    simp [Try.ntmps33, Try.results33, cSl, cn0, cI, cD, rAr, Ar.row]
    refine loop_rounds 1 ?_
    simp [Try.ntmps33, Try.results33, cSl, cn0, cI, cD, UnrK, insertI]
    refine loop_rounds 2 ?_
    simp [Try.ntmps33, Try.results33, cSl, cn0, cI, cD, UnrK]
    exact ⟨[5], by simp⟩
  · rintro l a r H' hne hr
    by_cases hc : arCheck l = 0 ∧ a.right = true
    case neg => rw [if_neg hc] at hr; cases hr
    rw [if_pos hc] at hr
    simp only [Option.some.injEq, Prod.mk.injEq] at hr
    obtain ⟨rfl, rfl⟩ := hr
    refine bodyI_of (noOrc_ok.withI arIns) fxMix (by kernel_rfl) (by simp [Try.ntmps33]) ?_
    intro C cP cI cN cD cF
    have cn0 := orcI arIns (C := C) (by rw [cN]; rfl)
    replace cI := fun g => congrFun cI g
    simp only [Orc.withP, Orc.withI, Orc.withF, Orc.withD, noOrc] at cI
    replace cD : C.dyn = fun _ => [] := cD
    clear cP cN cF
    obtain ⟨h0, ha⟩ := hc
    have hg := arCheck_iff.1 h0
    have hl := good_len0 hg
    simp [Try.ntmps33, Try.results33, cSl, cn0, cI, cD, rAr, Ar.row]
    generalize htw : (l.takeWhile (fun x => decide (x.page < a.page))).length = tw
    have htl : tw ≤ l.length := by rw [← htw]; exact tw_le _ _
    refine loop_inv (σ := {i : Nat // i ≤ tw}) (fun p => ([(0, .osl 0 3 0 l.length l.length), (3, .ptr 1 3 0 0), (5, .v (.int .i64 p.val))], [some (3, l.map Ar.row), some (3, [a.row])])) (fun p => tw - p.val) ⟨0, by omega⟩ (by simp [Ar.row]) ?_
    rintro ⟨i, hi⟩
    have hw : IntKind.i64.wrap ((i : Int) + 1) = ((i + 1 : Nat) : Int) := by rw [w64 (by omega) (by omega)]; simp
    rcases Nat.lt_or_ge i tw with hit | hit
    · obtain ⟨hil, hip⟩ := tw_lt (p := fun x : Ar => decide (x.page < a.page)) (l := l) (i := i) (by rw [htw]; exact hit)
      simp at hip
      simp [Try.ntmps33, Try.results33, cSl, cn0, cI, cD, hil, Ar.row, hip, hw]
      exact ⟨i + 1, by omega, by omega, by simp⟩
    · have hitw : i = tw := by omega
      subst hitw
      have hrows := insA_rows l a
      have hlen := insA_len l a
      have hend := tw_end (fun x : Ar => decide (x.page < a.page)) l
      rw [htw] at hrows
      simp only [htw] at hend
      have hcond : ¬ ∃ hh : i < l.length, l[i].page < a.page := by
        rintro ⟨h1, h2⟩
        rcases hend with h | ⟨_, h⟩
        · omega
        · simp at h; omega
      generalize hm : insA l a = m at *
      have hml : m.length ≤ 65 := by omega
      have hmr : ∀ x ∈ m, x.right = true := by
        intro x hx
        rw [← hm] at hx
        rcases insA_mem hx with rfl | hx
        · exact ha
        · exact hg.mem hx
      have hlay : layA l a = m.foldl join1 [] := by rw [← hm]; rfl
      have hl1 : l.length ≤ 1048576 := by omega
      have hpos : 0 < l.length := List.length_pos_iff.2 hne
      have hile : i ≤ l.length := htl
      simp only [Ar.row] at hrows
      rw [hlay]
      by_cases hil : i < l.length
      · have hp : ¬ l[i].page < a.page := fun h => hcond ⟨hil, h⟩
        simp [Try.ntmps33, Try.results33, cSl, cn0, cI, cD, hil, Ar.row, hp, insertI, hl1, hpos, hne, hile]
        rw [← hrows]
        refine loop_forT m.length (fun k (out : List Ar) => ([(6, ownA 2 3 (out.map Ar.row)), (31, .osl 1 3 0 m.length m.length), (32, .v (.int .i64 m.length)), (33, .v (.int .i64 k))], [none, some (3, m.map Ar.row)] ++ ownT 3 (out.map Ar.row))) (fun k out => out = (m.take k).foldl join1 []) [] [3] (by omega) (by simp) (by simp [hlen]) ?_ ?_
        · rintro k out hk hout hw
          have hfold := fold_take hk
          rw [← hout] at hfold
          have hb := fold_bnd (l := m.take k) (fun x hx => hmr x (List.mem_of_mem_take hx))
          rw [← hout] at hb
          have hol := fold_len (m.take k) []
          rw [← hout] at hol
          simp at hol
          have hxr := Ar.right_iff.1 (hmr _ (List.getElem_mem hk))
          rcases List.eq_nil_or_concat out with ho | ⟨o, b, ho⟩
          · subst ho
            simp only [join1, List.getLast?_nil] at hfold
            simp [Try.ntmps33, Try.results33, cSl, cn0, cI, cD, hk, hw, Ar.row, hfold]
            exact ⟨[1, 4], by simp⟩
          · simp only [List.concat_eq_append] at ho
            subst ho
            have hbb := hb b (by simp)
            have hkl : (m.take k).length ≤ 65 := by simp; omega
            have w1 : IntKind.i64.wrap (b.page + b.n) = b.page + b.n := w64 (by omega) (by omega)
            have w2 : IntKind.i64.wrap (b.n + m[k].n) = b.n + m[k].n := w64 (by omega) (by omega)
            have w3 : IntKind.i64.wrap (o.length : Int) = (o.length : Int) := by simp at hol; exact w64 (by omega) (by omega)
            have hset : ∀ x y : Row, (o.map Ar.row ++ [y]).set o.length x = o.map Ar.row ++ [x] := by intro x y; simp
            simp only [join1, List.getLast?_append, List.getLast?_singleton, Option.some_or, joins, Bool.and_eq_true, decide_eq_true_eq] at hfold
            have n1 : o.length + 1 + 1 ≤ 4294967296 := by simp at hol; omega
            have n2 : ¬ (o.length + 1 + 1 ≤ o.length + 1) := by omega
            by_cases q1 : b.page + b.n = m[k].page
            · by_cases q2 : b.rights = m[k].rights
              · rw [if_pos ⟨q1, q2⟩, List.dropLast_concat] at hfold
                replace q1 := eq_true q1
                replace q2 := eq_true q2
                simp [Try.ntmps33, Try.results33, cSl, cn0, cI, cD, hk, hw, Ar.row, hfold, w1, w2, w3, hset, q1, q2]
                exact ⟨[1, 2], by simp⟩
              · rw [if_neg (fun h => q2 h.2)] at hfold
                replace q1 := eq_true q1
                simp [Try.ntmps33, Try.results33, cSl, cn0, cI, cD, hk, hw, Ar.row, hfold, w1, w2, w3, hset, q1, q2, n1, n2]
                exact ⟨[1, 5], by simp⟩
            · rw [if_neg (fun h => q1 h.1)] at hfold
              simp [Try.ntmps33, Try.results33, cSl, cn0, cI, cD, hk, hw, Ar.row, hfold, w1, w2, w3, hset, q1, n1, n2]
              exact ⟨[1, 5], by simp⟩
        · rintro out hout
          simp at hout
          have hol := fold_len m []
          rw [← hout] at hol
          have hne2 : out ≠ [] := by
            have hpm : 0 < m.length := by omega
            have := fold_take (l := m) (k := m.length - 1) (by omega)
            rw [show m.length - 1 + 1 = m.length by omega, List.take_length, ← hout] at this
            rw [this]; exact (join1_len _ _).2
          have o1 : ∀ id, ownA id 3 (out.map Ar.row) = .osl id 3 0 out.length out.length := by intro id; simp [ownA, hne2]
          have o2 : ownT 3 (out.map Ar.row) = [some (3, out.map Ar.row)] := by simp [ownT, hne2]
          rw [← hout]
          simp [Try.ntmps33, Try.results33, cSl, cn0, cI, cD, o1, o2]
          exact ⟨[2], by simp⟩
      · have hile2 : i = l.length := by omega
        simp [Try.ntmps33, Try.results33, cSl, cn0, cI, cD, hil, Ar.row, insertI, hl1, hpos, hne, hile]
        rw [← hrows]
        refine loop_forT m.length (fun k (out : List Ar) => ([(6, ownA 2 3 (out.map Ar.row)), (31, .osl 1 3 0 m.length m.length), (32, .v (.int .i64 m.length)), (33, .v (.int .i64 k))], [none, some (3, m.map Ar.row)] ++ ownT 3 (out.map Ar.row))) (fun k out => out = (m.take k).foldl join1 []) [] [3] (by omega) (by simp) (by simp [hlen]) ?_ ?_
        · rintro k out hk hout hw
          have hfold := fold_take hk
          rw [← hout] at hfold
          have hb := fold_bnd (l := m.take k) (fun x hx => hmr x (List.mem_of_mem_take hx))
          rw [← hout] at hb
          have hol := fold_len (m.take k) []
          rw [← hout] at hol
          simp at hol
          have hxr := Ar.right_iff.1 (hmr _ (List.getElem_mem hk))
          rcases List.eq_nil_or_concat out with ho | ⟨o, b, ho⟩
          · subst ho
            simp only [join1, List.getLast?_nil] at hfold
            simp [Try.ntmps33, Try.results33, cSl, cn0, cI, cD, hk, hw, Ar.row, hfold]
            exact ⟨[1, 4], by simp⟩
          · simp only [List.concat_eq_append] at ho
            subst ho
            have hbb := hb b (by simp)
            have hkl : (m.take k).length ≤ 65 := by simp; omega
            have w1 : IntKind.i64.wrap (b.page + b.n) = b.page + b.n := w64 (by omega) (by omega)
            have w2 : IntKind.i64.wrap (b.n + m[k].n) = b.n + m[k].n := w64 (by omega) (by omega)
            have w3 : IntKind.i64.wrap (o.length : Int) = (o.length : Int) := by simp at hol; exact w64 (by omega) (by omega)
            have hset : ∀ x y : Row, (o.map Ar.row ++ [y]).set o.length x = o.map Ar.row ++ [x] := by intro x y; simp
            simp only [join1, List.getLast?_append, List.getLast?_singleton, Option.some_or, joins, Bool.and_eq_true, decide_eq_true_eq] at hfold
            have n1 : o.length + 1 + 1 ≤ 4294967296 := by simp at hol; omega
            have n2 : ¬ (o.length + 1 + 1 ≤ o.length + 1) := by omega
            by_cases q1 : b.page + b.n = m[k].page
            · by_cases q2 : b.rights = m[k].rights
              · rw [if_pos ⟨q1, q2⟩, List.dropLast_concat] at hfold
                replace q1 := eq_true q1
                replace q2 := eq_true q2
                simp [Try.ntmps33, Try.results33, cSl, cn0, cI, cD, hk, hw, Ar.row, hfold, w1, w2, w3, hset, q1, q2]
                exact ⟨[1, 2], by simp⟩
              · rw [if_neg (fun h => q2 h.2)] at hfold
                replace q1 := eq_true q1
                simp [Try.ntmps33, Try.results33, cSl, cn0, cI, cD, hk, hw, Ar.row, hfold, w1, w2, w3, hset, q1, q2, n1, n2]
                exact ⟨[1, 5], by simp⟩
            · rw [if_neg (fun h => q1 h.1)] at hfold
              simp [Try.ntmps33, Try.results33, cSl, cn0, cI, cD, hk, hw, Ar.row, hfold, w1, w2, w3, hset, q1, n1, n2]
              exact ⟨[1, 5], by simp⟩
        · rintro out hout
          simp at hout
          have hol := fold_len m []
          rw [← hout] at hol
          have hne2 : out ≠ [] := by
            have hpm : 0 < m.length := by omega
            have := fold_take (l := m) (k := m.length - 1) (by omega)
            rw [show m.length - 1 + 1 = m.length by omega, List.take_length, ← hout] at this
            rw [this]; exact (join1_len _ _).2
          have o1 : ∀ id, ownA id 3 (out.map Ar.row) = .osl id 3 0 out.length out.length := by intro id; simp [ownA, hne2]
          have o2 : ownT 3 (out.map Ar.row) = [some (3, out.map Ar.row)] := by simp [ownT, hne2]
          rw [← hout]
          simp [Try.ntmps33, Try.results33, cSl, cn0, cI, cD, o1, o2]
          exact ⟨[2], by simp⟩
theorem lay_inl : InlOk Try.prog 33 (frame1 (own1 rAr (argG (cAgg rAr) fun a => finG (if a.right = true then some ((.osl 0 3 0 1 1, [some (3, [a.row])])) else none)) (fun l => argG (cAgg rAr) fun a => finG (if arCheck l = 0 ∧ a.right = true then some ((.osl 1 3 0 (layA l a).length (layA l a).length, [none, some (3, (layA l a).map Ar.row)])) else none)))) := frame1_ok lay_own
end Go.Proofs.Ytjohjiphjmcolaa
