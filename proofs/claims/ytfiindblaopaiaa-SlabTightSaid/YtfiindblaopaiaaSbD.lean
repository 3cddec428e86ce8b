/- Package slab: Take. -/
import Derived.Test.YtfiindblaopaiaaSbC
import Derived.Test.YtfiindblaopaiaaAiZe
namespace Go.Proofs.Ytfiindblaopaiaa
open Go.AI
set_option maxHeartbeats 2000000
set_option maxRecDepth 100000
set_option linter.unusedSimpArgs false
set_option linter.unusedVariables false
attribute [local simp] wpA wpX RunA RunD runF foot footP footB idsA bare apart runL step1 gsel_f gsel_t gsel_s res_same res_and1 res_and2 res_and3 res_and4 res_and5 res_and6 res_false res_true res_v res_ptr res_fptr res_osl res_xsl soft aAppendZ aCap ovlI ovlJ res_fsl res_esl res_agg res_tup res_fn res_junk res_anyb aPick hk imp_left iteV dstOk guardOk astep astepE AI.ev AI.look AI.put envOf aBox cellsOf allOne allOneA oneA Value.oneCell' Value.cells newObj' aFieldAddr aLoad obj readAt thenA blockA condA retA resA tupA view hot hotC hotR depthV cAgg cInt cBool mkAgg allV aAlloc aBuild fillA writeAt aStore isAggA aField idx aIndexAddr aIndex bnd aSlice aExtract aLen aBuiltin aCall isStatic eqAgg eqTy eqC ev_add ev_sub ev_mul ev_quo ev_rem ev_and ev_or ev_xor ev_andNot ev_shl ev_shr ev_eql ev_neq ev_lss ev_leq ev_gtr ev_geq ev_agg w64 wu32 wu8 ev_not ev_neg Cod.plain RCod.plain argM finM cold coldC coldR goInt intDec boolDec aggDec Weaker heapW lowA lowC Again slDec undef aBuildSlice setRows aAppend rowsOf aMakeSlice aClear aCopy softer_self softer_nil valsOf ev_min2 ev_max2 hotR_set hotR_append take_map_set irow_cold irow_mapM irow_mapMc irow_view irow_viewc irow_hotR irow_ren irow_renc irow_low WeakT heapT thOf ren renC AgainT NextF NextT fnDec cFn rNil selfLt natLt0 natLt1 getLastMap frame0 frame1 own0 own1 argG finG tau tauI tauO tauC bareA bareC bareH irow_tau irow_tauc irow_bare irow_flat irow_bareR ownA_nil ownT_nil ownA_c ownT_c ownA_s ownT_s takeMapLen footC plainA noId noIdC cloneF frame0F frame1F insertF replaceI replaceF cellDec rCell fpDec cFp rTwo deleteF allV_oA oneA_oA res_oA RunR RunE runFT footAt hotR_cat tmodN frameN newA newC newH fxSz2 fxBy2 fxAg2 fxZe2 fxSl2 fxAr2 fxPl2 fxSz3 fxBy3 fxAg3 fxZe3 fxSl3 fxAr3 fxPl3 fxSz4 fxBy4 fxAg4 fxZe4 fxSl4 fxAr4 fxPl4 fxSz5 fxBy5 fxAg5 fxZe5 fxSl5 fxAr5 fxPl5 fxSz9 fxBy9 fxAg9 fxZe9 fxSl9 fxAr9 fxPl9 fxSz12 fxBy12 fxAg12 fxZe12 fxSl12 fxAr12 fxPl12 fxSz13 fxBy13 fxAg13 fxZe13 fxSl13 fxAr13 fxFi13x0 fxFi13x1 fxPl13 fxSz21 fxBy21 fxAg21 fxZe21 fxSl21 fxAr21 fxPl21 fxSz22 fxBy22 fxAg22 fxZe22 fxSl22 fxAr22 fxPl22 fxSz23 fxBy23 fxAg23 fxZe23 fxSl23 fxAr23 fxFi23x0 fxFi23x1 fxPl23 fxSz24 fxBy24 fxAg24 fxZe24 fxSl24 fxAr24 fxFi24x0 fxFi24x1 fxPl24 fxSz25 fxBy25 fxAg25 fxZe25 fxSl25 fxAr25 fxFi25x0 fxFi25x1 fxPl25 fxSz26 fxBy26 fxAg26 fxZe26 fxSl26 fxAr26 fxFi26x0 fxFi26x1 fxPl26 fxSz27 fxBy27 fxAg27 fxZe27 fxSl27 fxAr27 fxPl27 fxSz34 fxBy34 fxAg34 fxZe34 fxSl34 fxAr34 fxPl34 fxSz37 fxBy37 fxAg37 fxZe37 fxSl37 fxAr37 fxPl37 fxSz45 fxBy45 fxAg45 fxZe45 fxSl45 fxAr45 fxFi45x0 fxFi45x1 fxPl45 fxSz46 fxBy46 fxAg46 fxZe46 fxSl46 fxAr46 fxFi46x0 fxFi46x1 fxPl46 fxSz48 fxBy48 fxAg48 fxZe48 fxSl48 fxAr48 fxPl48 fxSz49 fxBy49 fxAg49 fxZe49 fxSl49 fxAr49 fxPl49 fxSz50 fxBy50 fxAg50 fxZe50 fxSl50 fxAr50 fxFi50x0 fxFi50x1 fxPl50 fxSz51 fxBy51 fxAg51 fxZe51 fxSl51 fxAr51 fxFi51x0 fxFi51x1 fxPl51 fxSz57 fxBy57 fxAg57 fxZe57 fxSl57 fxAr57 fxPl57 fxSz69 fxBy69 fxAg69 fxZe69 fxSl69 fxAr69 fxPl69 fxSz70 fxBy70 fxAg70 fxZe70 fxSl70 fxAr70 fxPl70 fxSz92 fxBy92 fxAg92 fxZe92 fxSl92 fxAr92 fxPl92 fxSz107 fxBy107 fxAg107 fxZe107 fxSl107 fxAr107 fxPl107 fxSz108 fxBy108 fxAg108 fxZe108 fxSl108 fxAr108 fxFi108x0 fxPl108 fxSz111 fxBy111 fxAg111 fxZe111 fxSl111 fxAr111 fxPl111 fxSz115 fxBy115 fxAg115 fxZe115 fxSl115 fxAr115 fxPl115 fxSz120 fxBy120 fxAg120 fxZe120 fxSl120 fxAr120 fxPl120 fxEq26 fxEq70 fxCv2x2 fxCv2x3 fxCv2x5 fxCv2x12 fxCv2x21 fxCv2x27 fxCv2x111 fxCv3x2 fxCv3x3 fxCv3x5 fxCv3x12 fxCv3x21 fxCv3x27 fxCv3x111 fxCv5x2 fxCv5x3 fxCv5x5 fxCv5x12 fxCv5x21 fxCv5x27 fxCv5x111 fxCv12x2 fxCv12x3 fxCv12x5 fxCv12x12 fxCv12x21 fxCv12x27 fxCv12x111 fxCv21x2 fxCv21x3 fxCv21x5 fxCv21x12 fxCv21x21 fxCv21x27 fxCv21x111 fxCv27x2 fxCv27x3 fxCv27x5 fxCv27x12 fxCv27x21 fxCv27x27 fxCv27x111 fxCv111x2 fxCv111x3 fxCv111x5 fxCv111x12 fxCv111x21 fxCv111x27 fxCv111x111 fxEb4 fxNb4 fxLt9 fxLn22 fxNe22 fxNn22 fxOe22 fxOn22 fxXe22 fxXn22 fxLn34 fxNe34 fxNn34 fxOe34 fxOn34 fxXe34 fxXn34 fxLn37 fxNe37 fxNn37 fxOe37 fxOn37 fxXe37 fxXn37 fxLn48 fxNe48 fxNn48 fxOe48 fxOn48 fxXe48 fxXn48 fxLn49 fxNe49 fxNn49 fxOe49 fxOn49 fxXe49 fxXn49 fxLn57 fxNe57 fxNn57 fxOe57 fxOn57 fxXe57 fxXn57 fxLn69 fxNe69 fxNn69 fxOe69 fxOn69 fxXe69 fxXn69 fxLn92 fxNe92 fxNn92 fxOe92 fxOn92 fxXe92 fxXn92 fxFn3 fxFm3 fxFb3 fxFi3 fxFj3 fxFn4 fxFm4 fxFb4 fxFi4 fxFj4 fxFn5 fxFm5 fxFb5 fxFi5 fxFj5 fxFn6 fxFm6 fxFb6 fxFi6 fxFj6 fxFn7 fxFm7 fxFb7 fxFi7 fxFj7 fxFn8 fxFm8 fxFb8 fxFi8 fxFj8 fxFn9 fxFm9 fxFb9 fxFi9 fxFj9 fxFn10 fxFm10 fxFb10 fxFi10 fxFj10 fxFn11 fxFm11 fxFb11 fxFi11 fxFj11 fxFn12 fxFm12 fxFb12 fxFi12 fxFj12 fxFn13 fxFm13 fxFb13 fxFi13 fxFj13 fxFn14 fxFm14 fxFb14 fxFi14 fxFj14 fxFn15 fxFm15 fxFb15 fxFi15 fxFj15 fxFn16 fxFm16 fxFb16 fxFi16 fxFj16 fxFn17 fxFm17 fxFb17 fxFi17 fxFj17 fxFn18 fxFm18 fxFb18 fxFi18 fxFj18 fxFn19 fxFm19 fxFb19 fxFi19 fxFj19 fxFn20 fxFm20 fxFb20 fxFi20 fxFj20 fxFn21 fxFm21 fxFb21 fxFi21 fxFj21 fxFn22 fxFm22 fxFb22 fxFi22 fxFj22 fxFn23 fxFm23 fxFb23 fxFi23 fxFj23 fxFn24 fxFm24 fxFb24 fxFi24 fxFj24 fxFn25 fxFm25 fxFb25 fxFi25 fxFj25 fxFn26 fxFm26 fxFb26 fxFi26 fxFj26 fxFn27 fxFm27 fxFb27 fxFi27 fxFj27 fxFn28 fxFm28 fxFb28 fxFi28 fxFj28 fxFn29 fxFm29 fxFb29 fxFi29 fxFj29 fxFn30 fxFm30 fxFb30 fxFi30 fxFj30 fxFn31 fxFm31 fxFb31 fxFi31 fxFj31 fxFn32 fxFm32 fxFb32 fxFi32 fxFj32 fxFn33 fxFm33 fxFb33 fxFi33 fxFj33 fxFn34 fxFm34 fxFb34 fxFi34 fxFj34 fxFn35 fxFm35 fxFb35 fxFi35 fxFj35 fxFn36 fxFm36 fxFb36 fxFi36 fxFj36 fxFn37 fxFm37 fxFb37 fxFi37 fxFj37 fxFn38 fxFm38 fxFb38 fxFi38 fxFj38 fxFn39 fxFm39 fxFb39 fxFi39 fxFj39 fxFn40 fxFm40 fxFb40 fxFi40 fxFj40 fxFn41 fxFm41 fxFb41 fxFi41 fxFj41 fxFn42 fxFm42 fxFb42 fxFi42 fxFj42 fxFn43 fxFm43 fxFb43 fxFi43 fxFj43 fxFn44 fxFm44 fxFb44 fxFi44 fxFj44 fxFn45 fxFm45 fxFb45 fxFi45 fxFj45 fxFn46 fxFm46 fxFb46 fxFi46 fxFj46 fxFn47 fxFm47 fxFb47 fxFi47 fxFj47 fxFn48 fxFm48 fxFb48 fxFi48 fxFj48 fxFn49 fxFm49 fxFb49 fxFi49 fxFj49 fxFn50 fxFm50 fxFb50 fxFi50 fxFj50 fxFn51 fxFm51 fxFb51 fxFi51 fxFj51 fxFn52 fxFm52 fxFb52 fxFi52 fxFj52 fxFn53 fxFm53 fxFb53 fxFi53 fxFj53 fxFn54 fxFm54 fxFb54 fxFi54 fxFj54 fxFn55 fxFm55 fxFb55 fxFi55 fxFj55 fxFn56 fxFm56 fxFn57 fxFm57 fxFb57 fxFi57 fxFj57 fxFn58 fxFm58 fxFb58 fxFi58 fxFj58 fxFn59 fxFm59 fxFn60 fxFm60 fxFb60 fxFi60 fxFj60 fxFn61 fxFm61 fxFb61 fxFi61 fxFj61 fxFn62 fxFm62 fxFb62 fxFi62 fxFj62 fxFn63 fxFm63 fxFb63 fxFi63 fxFj63 fxFn64 fxFm64 fxFb64 fxFi64 fxFj64 fxFn65 fxFm65 fxFb65 fxFi65 fxFj65 fxFn66 fxFm66 fxFb66 fxFi66 fxFj66
attribute [local simp] Place.eta Place.cold Place.mapM Place.mapMc Place.view Place.viewc Place.hotR Place.ren Place.renc Place.low Place.tau Place.tauc Place.bare Place.flat Place.flat1 Place.mapMt Place.mapMd Place.coldt Place.coldd Place.hotRt Place.hotRd
attribute [local simp] Box.eta Box.dec_row Box.dec_hrow Box.cold Box.hcold Box.mapM Box.mapMc Box.hmapM Box.hmapMc Box.view Box.viewc Box.hview Box.hviewc Box.hotR Box.ren Box.renc Box.low Box.hlow
attribute [local simp] Slb.eta Slb.dec_row Slb.dec_hrow
attribute [local simp] sl_new sl_newH sl_tau sl_tauO
def Place.val' (p : Place) : AVal := .v (.agg #[.int .i64 p.frame, .int .i64 p.at_])
def slTkE : Except Int (Slb × Place × Bool) → AVal
  | .ok (s, p, b) => .tup [.agg s.hrow, .v (.agg #[.int .i64 p.frame, .int .i64 p.at_]), .v (.bool b), .v (.int .i64 0)]
  | .error e => .v (.tuple #[.agg #[.int .i64 0, .slice none 0 0], .agg #[.int .i64 0, .int .i64 0], .bool false, .int .i64 e])
theorem slRows_none {c : Nat} {L : List Box} : slRows L.length c L = L.map Box.hrow := by
  apply List.ext_getElem?
  intro i
  by_cases hi : i < L.length
  · rw [slRows_get hi, if_neg (by omega)]; simp [hi]
  · rw [List.getElem?_eq_none (by rw [slRows_len]; omega), List.getElem?_eq_none (by simp; omega)]
theorem slRows_view {H : Heap} {d i c : Nat} {L : List Box} (ho : ∀ h : i < L.length, obj H c = some (1, L[i].used.map (irow .i64))) : List.map (List.map (view H (d + 1))) (slRows i c L) = L.map Box.hrow := by
  apply List.ext_getElem?
  intro k
  rw [List.getElem?_map]
  by_cases hk : k < L.length
  · rw [slRows_get hk]
    by_cases e : k = i
    · subst e
      rw [if_pos rfl]
      simp [-obj, hk, ownB, Box.hrow, view, ho hk]
    · rw [if_neg e]
      have := Box.hview H (d + 1) L[k]
      simp [hk, this]
  · rw [List.getElem?_eq_none (by rw [slRows_len]; omega), List.getElem?_eq_none (by simp; omega)]; rfl
theorem slRows_vset {H : Heap} {d i c : Nat} {L : List Box} {r : Row} : (List.map (List.map (view H (d + 1))) (slRows i c L)).set i r = (L.map Box.hrow).set i r := by
  apply List.ext_getElem?
  intro k
  by_cases hk : k < L.length
  · by_cases e : k = i
    · subst e
      rw [List.getElem?_set_self (by rw [List.length_map, slRows_len]; exact hk), List.getElem?_set_self (by simpa using hk)]
    · rw [List.getElem?_set_ne (fun h => e h.symm), List.getElem?_set_ne (fun h => e h.symm), List.getElem?_map, slRows_get hk, if_neg e]
      have := Box.hview H (d + 1) L[k]
      simp [hk, this]
  · rw [List.getElem?_eq_none (by rw [List.length_set, List.length_map, slRows_len]; omega), List.getElem?_eq_none (by simp; omega)]
theorem ins_spec (L : List Box) (f : Int) : insAt L f ≤ L.length ∧ (∀ k, k < insAt L f → ∃ h : k < L.length, L[k].frame < f) ∧ ∀ h : insAt L f < L.length, ¬ L[insAt L f].frame < f := by
  unfold insAt
  cases h : L.findIdx? (fun b => !decide (b.frame < f)) with
  | none =>
    rw [List.findIdx?_eq_none_iff] at h
    simp only [Option.getD_none]
    refine ⟨Nat.le_refl _, fun k hk => ⟨hk, ?_⟩, fun hh => absurd hh (Nat.lt_irrefl _)⟩
    simpa using h _ (List.getElem_mem hk)
  | some i =>
    rw [List.findIdx?_eq_some_iff_getElem] at h
    obtain ⟨h1, h2, h3⟩ := h
    simp only [Option.getD_some]
    refine ⟨by omega, fun k hk => ⟨by omega, by simpa using h3 k hk⟩, fun _ => by simpa using h2⟩
def rCapI : RCod Int := rCell (cFp (rI .i64))
theorem inInsOv : InlOk Try.prog 56 ovlI := ovl_inl (t := 34) (r := 4) Try.func56 (by kernel_rfl) (by kernel_rfl) (by kernel_rfl) (by kernel_rfl) Try.underlying34 (sz := 1) (by kernel_rfl)
theorem inIns : InlOk Try.prog 38 (insertI 1) := by
  have hC := (noOrc_ok (P := Try.prog)).withI inInsOv
  refine insert_of Try.func38 rfl (by simp [Try.ntmps38]) ?_ ?_ ?_ ?_
  · intro H vid vr h1
    refine wpA_sound hC fxMix _ _ _ _ (by kernel_rfl) ?_
    have h1' := obj_get h1
    simp [Try.ntmps38, Try.results38, noOrc, Orc.withI, h1']
  · intro H id vid rows vr h1 h2 h3 h5
    refine wpA_sound hC fxMix _ _ _ _ (by kernel_rfl) ?_
    have h1' := obj_get h1
    have h2' := obj_get h2
    have h6 : ¬ (rows.length + 1 ≤ rows.length) := by omega
    have h7 : rows.length ≤ 4294967295 := by omega
    simp [Try.ntmps38, Try.results38, noOrc, Orc.withI, h1', h2', h6, h7]
  · intro H id vid i rows vr h1 h2 h3 h4 h5 h6 h7
    refine wpA_sound hC fxMix _ _ _ _ (by kernel_rfl) ?_
    have h1' := obj_get h1
    have h2' := obj_get h2
    have w1 : IntKind.i64.wrap ((rows.length : Int) + 1) = ((rows.length + 1 : Nat) : Int) := by rw [w64 (by omega) (by omega)]; simp
    obtain ⟨k, hk⟩ : ∃ k, k = rows.length + 1 - i := ⟨_, rfl⟩
    have w2 : IntKind.i64.wrap ((rows.length : Int) + 1 - i) = (k : Int) := by rw [w64 (by omega) (by omega)]; omega
    have w3 : IntKind.i64.wrap ((i : Int) + 1) = ((i + 1 : Nat) : Int) := by rw [w64 (by omega) (by omega)]; simp
    have h8 : ¬ i = rows.length := by omega
    have g1 := (List.getElem?_eq_some_iff.1 h1').2
    have g2 := (List.getElem?_eq_some_iff.1 h2').2
    have b1 : ¬ (i : Int) = rows.length := by omega
    have b2 : ¬ (rows.length : Int) = i := by omega
    have e1 : ∀ l, (H ++ l)[vid]? = some (some (1, [vr])) := by intro l; rw [List.getElem?_append_left h5, h2']
    have e2 : ∀ l, (H ++ l)[id]? = some (some (1, rows)) := by intro l; rw [List.getElem?_append_left h4, h1']
    have d0 : ¬ vid = id := fun h => h3 h.symm
    have d1 : 0 < rows.length - i := by omega
    have d2 : min 1 (rows.length + 1 - i) = 1 := by omega
    have d3 : List.take (rows.length + 1 - i) [vr] = [vr] := List.take_of_length_le (by simp; omega)
    have d4 : rows.length - i ≤ rows.length + 1 - (i + 1) := by omega
    have d5 : min (rows.length - i) (rows.length + 1 - (i + 1)) = rows.length - i := by omega
    have d6 : i + 1 + (rows.length - i) ≤ i + (rows.length - i + 1) := by omega
    have d7 : i + 1 + (rows.length - i) ≤ rows.length + 1 := by omega
    have d8 : min (i + 1) rows.length = i + 1 := by omega
    have d9 : rows.length + 1 ≤ i + 1 + (rows.length - i) := by omega
    have f1 : ∀ X, List.take (i + 1) (List.take i rows ++ vr :: X) = List.take i rows ++ [vr] := by
      intro X
      have hl : (List.take i rows).length = i := by simp; omega
      rw [List.take_append, hl, List.take_of_length_le (by omega)]; simp
    have f2 : List.take (rows.length - i) (List.drop i rows) = List.drop i rows := List.take_of_length_le (by simp)
    have f7 : ∀ X, List.take i (List.take (i + 1) rows ++ X) = List.take i rows := by intro X; rw [List.take_append_of_le_length (by simp; omega), List.take_take]; congr 1; omega
    have f8 : ∀ X, List.drop (i + 1) (List.take (i + 1) rows ++ X) = X := by intro X; rw [List.drop_append_of_le_length (by simp; omega), List.drop_eq_nil_of_le (by simp; omega)]; rfl
    have c1 : (i : Int) ≤ rows.length + 1 := by omega
    have c2 : 0 ≤ (rows.length : Int) + 1 := by omega
    have c3 : (i : Int) + 1 ≤ rows.length + 1 := by omega
    have c4 : 0 ≤ (i : Int) + 1 := by omega
    have c5 : i + 1 ≤ rows.length + 1 := by omega
    have c6 : i + (rows.length + 1 - i) = rows.length + 1 := by omega
    have c7 : i + 1 + (rows.length + 1 - (i + 1)) = rows.length + 1 := by omega
    have a1 : i ≤ rows.length := by omega
    have a2 : i + k = rows.length + 1 := by omega
    have a3 : rows.length < rows.length + 1 := by omega
    have a4 : rows.length + 1 ≤ 4294967296 := by omega
    have a5 : i ≤ rows.length + 1 := by omega
    have a6 : min i rows.length = i := by omega
    have f3 : ∀ (z : Row), List.drop (i + 1 + (rows.length - i)) (List.take i rows ++ vr :: List.drop (i + 1) (List.take i rows ++ List.replicate k z)) = [] := by intro z; apply List.drop_eq_nil_of_le; simp; omega
    simp [Try.ntmps38, Try.results38, noOrc, Orc.withI, h1', h2', w1, w2, w3, h8, h4, h5, g1, g2, e1, e2, d0, d1, d2, d3, d4, d5, d6, d7, d8, d9, f1, f2, f3,  b1, b2, c1, c2, c3, c4, c5, c6, c7, a1, a2, a3, a4, a5, a6]
  · intro H id vid i cap rows vr jr h1 h2 h3 h4 h5 h6 h7 h8
    refine wpA_sound hC fxMix _ _ _ _ (by kernel_rfl) ?_
    have h1' := obj_get h1
    have h2' := obj_get h2
    have w1 : IntKind.i64.wrap ((rows.length : Int) + 1) = ((rows.length + 1 : Nat) : Int) := by rw [w64 (by omega) (by omega)]; simp
    have w3 : IntKind.i64.wrap ((i : Int) + 1) = ((i + 1 : Nat) : Int) := by rw [w64 (by omega) (by omega)]; simp
    have h9 : ¬ i = rows.length := by omega
    have g1 := (List.getElem?_eq_some_iff.1 h1').2
    have g2 := (List.getElem?_eq_some_iff.1 h2').2
    have b1 : ¬ (i : Int) = rows.length := by omega
    have b2 : ¬ (rows.length : Int) = i := by omega
    have e1 : ∀ l, (H ++ l)[vid]? = some (some (1, [vr])) := by intro l; rw [List.getElem?_append_left h5, h2']
    have e2 : ∀ l, (H ++ l)[id]? = some (some (1, rows ++ [jr])) := by intro l; rw [List.getElem?_append_left h4, h1']
    have d0 : ¬ vid = id := fun h => h3 h.symm
    have d1 : 0 < rows.length - i := by omega
    have d2 : min 1 (rows.length + 1 - i) = 1 := by omega
    have d3 : List.take (rows.length + 1 - i) [vr] = [vr] := List.take_of_length_le (by simp; omega)
    have d4 : rows.length - i ≤ rows.length + 1 - (i + 1) := by omega
    have d5 : min (rows.length - i) (rows.length + 1 - (i + 1)) = rows.length - i := by omega
    have d6 : i + 1 + (rows.length - i) ≤ i + (rows.length - i + 1) := by omega
    have d7 : i + 1 + (rows.length - i) ≤ rows.length + 1 := by omega
    have d8 : min (i + 1) rows.length = i + 1 := by omega
    have d9 : rows.length + 1 ≤ i + 1 + (rows.length - i) := by omega
    have f1 : ∀ X, List.take (i + 1) (List.take i rows ++ vr :: X) = List.take i rows ++ [vr] := by
      intro X
      have hl : (List.take i rows).length = i := by simp; omega
      rw [List.take_append, hl, List.take_of_length_le (by omega)]; simp
    have f2 : List.take (rows.length - i) (List.drop i rows) = List.drop i rows := List.take_of_length_le (by simp)
    have f7 : ∀ X, List.take i (List.take (i + 1) rows ++ X) = List.take i rows := by intro X; rw [List.take_append_of_le_length (by simp; omega), List.take_take]; congr 1; omega
    have f8 : ∀ X, List.drop (i + 1) (List.take (i + 1) rows ++ X) = X := by intro X; rw [List.drop_append_of_le_length (by simp; omega), List.drop_eq_nil_of_le (by simp; omega)]; rfl
    have c1 : (i : Int) ≤ rows.length + 1 := by omega
    have c2 : 0 ≤ (rows.length : Int) + 1 := by omega
    have c3 : (i : Int) + 1 ≤ rows.length + 1 := by omega
    have c4 : 0 ≤ (i : Int) + 1 := by omega
    have c5 : i + 1 ≤ rows.length + 1 := by omega
    have c6 : i + (rows.length + 1 - i) = rows.length + 1 := by omega
    have c7 : i + 1 + (rows.length + 1 - (i + 1)) = rows.length + 1 := by omega
    have a1 : i ≤ rows.length := by omega
    have a3 : ¬ cap < rows.length + 1 := by omega
    have a5 : i ≤ rows.length + 1 := by omega
    have a6 : min i rows.length = i := by omega
    have a7 : (rows.length : Int) + 1 ≤ cap := by omega
    have b3 : ¬ (cap : Int) < rows.length + 1 := by omega
    have a8 : i ≤ cap := by omega
    have f4 : List.take (rows.length - i) (List.take (rows.length + 1 - i) (List.drop i (rows ++ [jr]))) = List.drop i rows := by
      rw [List.take_take, List.drop_append_of_le_length a1, List.take_append_of_le_length (by simp; omega), List.take_of_length_le (by simp; omega)]
    have f5 : List.drop (i + 1 + (rows.length - i)) (rows ++ [jr]) = [] := List.drop_eq_nil_of_le (by simp; omega)
    have f6 : List.take (i + 1) (rows ++ [jr]) = List.take (i + 1) rows := List.take_append_of_le_length (by omega)
    simp [Try.ntmps38, Try.results38, noOrc, Orc.withI, h1', h2', w1, w3, h9, h4, h5, g1, g2, e1, e2, d0, d1, d2, d3, d4, d5, d6, d7, d8, d9, f2, f4, f5, f6, f7, f8, h3, List.getElem_set_ne,  b1, b2, c1, c2, c3, c4, c5, c6, c7, a1, a3, a5, a6, a7, a8, b3]

theorem bxInsOv : InlOk Try.prog 59 ovlI := ovl_inl (t := 22) (r := 4) Try.func59 (by kernel_rfl) (by kernel_rfl) (by kernel_rfl) (by kernel_rfl) Try.underlying22 (sz := 2) (by kernel_rfl)
theorem bxIns : InlOk Try.prog 41 (insertI 2) := by
  have hC := (noOrc_ok (P := Try.prog)).withI bxInsOv
  refine insert_of Try.func41 rfl (by simp [Try.ntmps41]) ?_ ?_ ?_ ?_
  · intro H vid vr h1
    refine wpA_sound hC fxMix _ _ _ _ (by kernel_rfl) ?_
    have h1' := obj_get h1
    simp [Try.ntmps41, Try.results41, noOrc, Orc.withI, h1']
  · intro H id vid rows vr h1 h2 h3 h5
    refine wpA_sound hC fxMix _ _ _ _ (by kernel_rfl) ?_
    have h1' := obj_get h1
    have h2' := obj_get h2
    have h6 : ¬ (rows.length + 1 ≤ rows.length) := by omega
    have h7 : rows.length ≤ 4294967295 := by omega
    simp [Try.ntmps41, Try.results41, noOrc, Orc.withI, h1', h2', h6, h7]
  · intro H id vid i rows vr h1 h2 h3 h4 h5 h6 h7
    refine wpA_sound hC fxMix _ _ _ _ (by kernel_rfl) ?_
    have h1' := obj_get h1
    have h2' := obj_get h2
    have w1 : IntKind.i64.wrap ((rows.length : Int) + 1) = ((rows.length + 1 : Nat) : Int) := by rw [w64 (by omega) (by omega)]; simp
    obtain ⟨k, hk⟩ : ∃ k, k = rows.length + 1 - i := ⟨_, rfl⟩
    have w2 : IntKind.i64.wrap ((rows.length : Int) + 1 - i) = (k : Int) := by rw [w64 (by omega) (by omega)]; omega
    have w3 : IntKind.i64.wrap ((i : Int) + 1) = ((i + 1 : Nat) : Int) := by rw [w64 (by omega) (by omega)]; simp
    have h8 : ¬ i = rows.length := by omega
    have g1 := (List.getElem?_eq_some_iff.1 h1').2
    have g2 := (List.getElem?_eq_some_iff.1 h2').2
    have b1 : ¬ (i : Int) = rows.length := by omega
    have b2 : ¬ (rows.length : Int) = i := by omega
    have e1 : ∀ l, (H ++ l)[vid]? = some (some (2, [vr])) := by intro l; rw [List.getElem?_append_left h5, h2']
    have e2 : ∀ l, (H ++ l)[id]? = some (some (2, rows)) := by intro l; rw [List.getElem?_append_left h4, h1']
    have d0 : ¬ vid = id := fun h => h3 h.symm
    have d1 : 0 < rows.length - i := by omega
    have d2 : min 1 (rows.length + 1 - i) = 1 := by omega
    have d3 : List.take (rows.length + 1 - i) [vr] = [vr] := List.take_of_length_le (by simp; omega)
    have d4 : rows.length - i ≤ rows.length + 1 - (i + 1) := by omega
    have d5 : min (rows.length - i) (rows.length + 1 - (i + 1)) = rows.length - i := by omega
    have d6 : i + 1 + (rows.length - i) ≤ i + (rows.length - i + 1) := by omega
    have d7 : i + 1 + (rows.length - i) ≤ rows.length + 1 := by omega
    have d8 : min (i + 1) rows.length = i + 1 := by omega
    have d9 : rows.length + 1 ≤ i + 1 + (rows.length - i) := by omega
    have f1 : ∀ X, List.take (i + 1) (List.take i rows ++ vr :: X) = List.take i rows ++ [vr] := by
      intro X
      have hl : (List.take i rows).length = i := by simp; omega
      rw [List.take_append, hl, List.take_of_length_le (by omega)]; simp
    have f2 : List.take (rows.length - i) (List.drop i rows) = List.drop i rows := List.take_of_length_le (by simp)
    have f7 : ∀ X, List.take i (List.take (i + 1) rows ++ X) = List.take i rows := by intro X; rw [List.take_append_of_le_length (by simp; omega), List.take_take]; congr 1; omega
    have f8 : ∀ X, List.drop (i + 1) (List.take (i + 1) rows ++ X) = X := by intro X; rw [List.drop_append_of_le_length (by simp; omega), List.drop_eq_nil_of_le (by simp; omega)]; rfl
    have c1 : (i : Int) ≤ rows.length + 1 := by omega
    have c2 : 0 ≤ (rows.length : Int) + 1 := by omega
    have c3 : (i : Int) + 1 ≤ rows.length + 1 := by omega
    have c4 : 0 ≤ (i : Int) + 1 := by omega
    have c5 : i + 1 ≤ rows.length + 1 := by omega
    have c6 : i + (rows.length + 1 - i) = rows.length + 1 := by omega
    have c7 : i + 1 + (rows.length + 1 - (i + 1)) = rows.length + 1 := by omega
    have a1 : i ≤ rows.length := by omega
    have a2 : i + k = rows.length + 1 := by omega
    have a3 : rows.length < rows.length + 1 := by omega
    have a4 : rows.length + 1 ≤ 4294967296 := by omega
    have a5 : i ≤ rows.length + 1 := by omega
    have a6 : min i rows.length = i := by omega
    have f3 : ∀ (z : Row), List.drop (i + 1 + (rows.length - i)) (List.take i rows ++ vr :: List.drop (i + 1) (List.take i rows ++ List.replicate k z)) = [] := by intro z; apply List.drop_eq_nil_of_le; simp; omega
    simp [Try.ntmps41, Try.results41, noOrc, Orc.withI, h1', h2', w1, w2, w3, h8, h4, h5, g1, g2, e1, e2, d0, d1, d2, d3, d4, d5, d6, d7, d8, d9, f1, f2, f3,  b1, b2, c1, c2, c3, c4, c5, c6, c7, a1, a2, a3, a4, a5, a6]
  · intro H id vid i cap rows vr jr h1 h2 h3 h4 h5 h6 h7 h8
    refine wpA_sound hC fxMix _ _ _ _ (by kernel_rfl) ?_
    have h1' := obj_get h1
    have h2' := obj_get h2
    have w1 : IntKind.i64.wrap ((rows.length : Int) + 1) = ((rows.length + 1 : Nat) : Int) := by rw [w64 (by omega) (by omega)]; simp
    have w3 : IntKind.i64.wrap ((i : Int) + 1) = ((i + 1 : Nat) : Int) := by rw [w64 (by omega) (by omega)]; simp
    have h9 : ¬ i = rows.length := by omega
    have g1 := (List.getElem?_eq_some_iff.1 h1').2
    have g2 := (List.getElem?_eq_some_iff.1 h2').2
    have b1 : ¬ (i : Int) = rows.length := by omega
    have b2 : ¬ (rows.length : Int) = i := by omega
    have e1 : ∀ l, (H ++ l)[vid]? = some (some (2, [vr])) := by intro l; rw [List.getElem?_append_left h5, h2']
    have e2 : ∀ l, (H ++ l)[id]? = some (some (2, rows ++ [jr])) := by intro l; rw [List.getElem?_append_left h4, h1']
    have d0 : ¬ vid = id := fun h => h3 h.symm
    have d1 : 0 < rows.length - i := by omega
    have d2 : min 1 (rows.length + 1 - i) = 1 := by omega
    have d3 : List.take (rows.length + 1 - i) [vr] = [vr] := List.take_of_length_le (by simp; omega)
    have d4 : rows.length - i ≤ rows.length + 1 - (i + 1) := by omega
    have d5 : min (rows.length - i) (rows.length + 1 - (i + 1)) = rows.length - i := by omega
    have d6 : i + 1 + (rows.length - i) ≤ i + (rows.length - i + 1) := by omega
    have d7 : i + 1 + (rows.length - i) ≤ rows.length + 1 := by omega
    have d8 : min (i + 1) rows.length = i + 1 := by omega
    have d9 : rows.length + 1 ≤ i + 1 + (rows.length - i) := by omega
    have f1 : ∀ X, List.take (i + 1) (List.take i rows ++ vr :: X) = List.take i rows ++ [vr] := by
      intro X
      have hl : (List.take i rows).length = i := by simp; omega
      rw [List.take_append, hl, List.take_of_length_le (by omega)]; simp
    have f2 : List.take (rows.length - i) (List.drop i rows) = List.drop i rows := List.take_of_length_le (by simp)
    have f7 : ∀ X, List.take i (List.take (i + 1) rows ++ X) = List.take i rows := by intro X; rw [List.take_append_of_le_length (by simp; omega), List.take_take]; congr 1; omega
    have f8 : ∀ X, List.drop (i + 1) (List.take (i + 1) rows ++ X) = X := by intro X; rw [List.drop_append_of_le_length (by simp; omega), List.drop_eq_nil_of_le (by simp; omega)]; rfl
    have c1 : (i : Int) ≤ rows.length + 1 := by omega
    have c2 : 0 ≤ (rows.length : Int) + 1 := by omega
    have c3 : (i : Int) + 1 ≤ rows.length + 1 := by omega
    have c4 : 0 ≤ (i : Int) + 1 := by omega
    have c5 : i + 1 ≤ rows.length + 1 := by omega
    have c6 : i + (rows.length + 1 - i) = rows.length + 1 := by omega
    have c7 : i + 1 + (rows.length + 1 - (i + 1)) = rows.length + 1 := by omega
    have a1 : i ≤ rows.length := by omega
    have a3 : ¬ cap < rows.length + 1 := by omega
    have a5 : i ≤ rows.length + 1 := by omega
    have a6 : min i rows.length = i := by omega
    have a7 : (rows.length : Int) + 1 ≤ cap := by omega
    have b3 : ¬ (cap : Int) < rows.length + 1 := by omega
    have a8 : i ≤ cap := by omega
    have f4 : List.take (rows.length - i) (List.take (rows.length + 1 - i) (List.drop i (rows ++ [jr]))) = List.drop i rows := by
      rw [List.take_take, List.drop_append_of_le_length a1, List.take_append_of_le_length (by simp; omega), List.take_of_length_le (by simp; omega)]
    have f5 : List.drop (i + 1 + (rows.length - i)) (rows ++ [jr]) = [] := List.drop_eq_nil_of_le (by simp; omega)
    have f6 : List.take (i + 1) (rows ++ [jr]) = List.take (i + 1) rows := List.take_append_of_le_length (by omega)
    simp [Try.ntmps41, Try.results41, noOrc, Orc.withI, h1', h2', w1, w3, h9, h4, h5, g1, g2, e1, e2, d0, d1, d2, d3, d4, d5, d6, d7, d8, d9, f2, f4, f5, f6, f7, f8, h3, List.getElem_set_ne,  b1, b2, c1, c2, c3, c4, c5, c6, c7, a1, a3, a5, a6, a7, a8, b3]

theorem take1_pure : PureOk Try.prog 40 (argM (cAgg rBox) fun b => argM (cFp (rI .i64)) fun f => finM (some (.v (.bool (b.frame == f))))) := by
  refine pure2 Try.func40 rfl ?_
  rintro b f r hr
  simp only [Option.some.injEq] at hr
  subst hr
  refine body_gen noOrc_ok fxMix (by kernel_rfl) (by simp [Try.ntmps40]) ?_
  intro C cP cI cN cD cF cA
  replace cI : C.inl = fun _ => false := cI
  replace cD : C.dyn = fun _ => [] := cD
  clear cP cN cF cA
  simp [Try.ntmps40, Try.results40, cSl, cI, cD, rBox, Box.row, boxDec, rI, irow]
theorem takeI_pure : PureOk Try.prog 58 (argM (cSl rBox) fun l => argM (cFn 40 rCapI) fun cp => finM (if l.length ≤ 4294967296 then some (.v (.int .i64 (idxP ((fun b => b.frame == cp)) l))) else none)) := by
  refine pure2 Try.func58 rfl ?_
  rintro l cp r hr
  by_cases hc : l.length ≤ 4294967296
  case neg => rw [if_neg hc] at hr; cases hr
  rw [if_pos hc] at hr
  simp only [Option.some.injEq] at hr
  subst hr
  refine body_gen (noOrc_ok.withP take1_pure) fxMix (by kernel_rfl) (by simp [Try.ntmps58]) ?_
  intro C cP cI cN cD cF cA
  have cp0 := orcP take1_pure (C := C) (by rw [cP]; rfl)
  replace cI : C.inl = fun _ => false := cI
  replace cD : C.dyn = fun _ => [] := cD
  clear cP cN cF cA
  simp [Try.ntmps58, Try.results58, cSl, cp0, cI, cD, rBox, Box.row, boxDec, rCapI, rI, irow, irowDec]
  refine loop_for l.length (fun k (_ : Unit) => ([(0, .fsl false 2 (l.map Box.row)), (1, .fn 40 [.fptr (irow .i64 cp) 0]), (7, .v (.int .i64 l.length)), (8, .v (.int .i64 k))], [])) (fun k _ => ((l.drop k).findIdx? ((fun b => b.frame == cp))).map (· + k) = l.findIdx? ((fun b => b.frame == cp))) () hc (by simp) (by simp [rBox, Box.row, boxDec, rCapI, rI, irow, irowDec]) ?_ ?_
  · intro k _ hk hall hw
    by_cases q : ((fun b => b.frame == cp)) l[k] = true
    · rw [find_drop hk, if_pos q] at hall
      try simp at q
      simp [Try.ntmps58, Try.results58, cSl, cp0, cI, cD, hk, hw, rBox, Box.row, boxDec, rCapI, rI, irow, irowDec, q, idxP, ← hall]
    · rw [find_drop hk, if_neg q] at hall
      try simp at q
      simp [Try.ntmps58, Try.results58, cSl, cp0, cI, cD, hk, hw, rBox, Box.row, boxDec, rCapI, rI, irow, irowDec, q]
      simpa using hall
  · intro _ hall
    simp at hall
    simp [Try.ntmps58, Try.results58, cSl, cp0, cI, cD, idxP, ← hall]
theorem takeC_pure : PureOk Try.prog 39 (argM (cSl rBox) fun l => argM (cFn 40 rCapI) fun cp => finM (if l.length ≤ 4294967296 then some (.v (.bool (l.any ((fun b => b.frame == cp))))) else none)) := by
  refine pure2 Try.func39 rfl ?_
  rintro l cp r hr
  by_cases hc : l.length ≤ 4294967296
  case neg => rw [if_neg hc] at hr; cases hr
  rw [if_pos hc] at hr
  simp only [Option.some.injEq] at hr
  subst hr
  refine body_gen (noOrc_ok.withP takeI_pure) fxMix (by kernel_rfl) (by simp [Try.ntmps39]) ?_
  intro C cP cI cN cD cF cA
  have cp0 := orcP takeI_pure (C := C) (by rw [cP]; rfl)
  replace cI : C.inl = fun _ => false := cI
  replace cD : C.dyn = fun _ => [] := cD
  clear cP cN cF cA
  simp [Try.ntmps39, Try.results39, cSl, cp0, cI, cD, hc, idxP_iff, rBox, rCapI, rI, irow, irowDec] <;> (rw [Bool.eq_iff_iff]; simp)
def jOf (s : Slb) : Nat := (s.boxes.findIdx? (holeB s.size.toNat)).getD s.boxes.length
theorem slTake_pure : PureOk Try.prog 12 (argM (cAgg rSlb) fun s => argM (cInt .i64) fun f => finM (if okS s then some (slTkE (slTake s f)) else none)) := by
  refine pure2 Try.func12 rfl ?_
  rintro s f r hr
  by_cases hc : okS s
  case neg => rw [if_neg hc] at hr; cases hr
  rw [if_pos hc] at hr
  simp only [Option.some.injEq] at hr
  subst hr
  refine body_gen ((((((((noOrc_ok.withP slCheck_pure).withP per_pure).withP contains_pure).withP takeC_pure).withIF (cpy_inl (jOf s)) frameN_loc).withIF inIns insert_loc).withIF bxIns insert_loc).withD (fun i => if i = 13 then [(1,7),(4,7),(1,8)] else if i = 14 then [(2,5)] else if i = 25 then [(1,3)] else [])) fxMix (by kernel_rfl) (by simp [Try.ntmps12]) ?_
  intro C cP cI cN cD cF cA
  have cp0 := orcP slCheck_pure (C := C) (by rw [cP]; rfl)
  have cp1 := orcP per_pure (C := C) (by rw [cP]; rfl)
  have cp2 := orcP contains_pure (C := C) (by rw [cP]; rfl)
  have cp3 := orcP takeC_pure (C := C) (by rw [cP]; rfl)
  have cn0 := orcI (cpy_inl (jOf s)) (C := C) (by rw [cN]; rfl)
  have cn1 := orcI inIns (C := C) (by rw [cN]; rfl)
  have cn2 := orcI bxIns (C := C) (by rw [cN]; rfl)
  replace cI := fun g => congrFun cI g
  simp only [Orc.withP, Orc.withI, Orc.withF, Orc.withD, Orc.withA, noOrc] at cI
  replace cD : C.dyn = fun i => if i = 13 then [(1,7),(4,7),(1,8)] else if i = 14 then [(2,5)] else if i = 25 then [(1,3)] else [] := cD
  replace cF := fun g => congrFun cF g
  simp only [Orc.withP, Orc.withI, Orc.withF, Orc.withD, Orc.withA, noOrc] at cF
  replace cA : C.alt = fun _ => [] := cA
  clear cP cN
  obtain ⟨z, L⟩ := s
  unfold slTake
  by_cases h0 : slCheck ⟨z, L⟩ = 0
  case neg => simp [Try.ntmps12, Try.results12, cSl, cp0, cp1, cp2, cp3, cn0, cn1, cn2, cI, cD, cF, cA, rSlb, slbDec, rBox, Slb.row, h0, hc, slTkE]
  obtain ⟨z1, z2, hL, hK1, hK⟩ := sl_ok.1 h0
  simp only at z1 z2 hL hK1 hK
  obtain ⟨z, rfl⟩ := Int.eq_ofNat_of_zero_le (show 0 ≤ z by omega)
  rw [Int.toNat_natCast] at hK
  have hcp : ∀ b, b ∈ L → b.used ≠ [] ∧ b.used.length ≤ 64 := fun b hb => by
    obtain ⟨_, _, h3, h4⟩ := hK b hb
    have := okU_16 (z := z) (by omega) (by omega) h4
    exact ⟨h3, by omega⟩
  have hcp1 : (∀ b, b ∈ L → ¬ b.used = [] ∧ b.used.length ≤ 64) = True := eq_true hcp
  simp [Try.ntmps12, Try.results12, cSl, cp0, cp1, cp2, cp3, cn0, cn1, cn2, cI, cD, cF, cA, rSlb, slbDec, rBox, Slb.row, h0, hc, hL, hcp1]
  by_cases h1 : L = []
  · subst h1
    have hj : jOf ⟨(z : Int), []⟩ = 0 := rfl
    simp [Try.ntmps12, Try.results12, cSl, cp0, cp1, cp2, cp3, cn0, cn1, cn2, cI, cD, cF, cA, slV, slH, oA, hj, rCapI, rI, irowDec]
    refine loop_rounds 1 ?_
    by_cases hf : f < 0 ∨ 64 ≤ f
    · simp [Try.ntmps12, Try.results12, cSl, cp0, cp1, cp2, cp3, cn0, cn1, cn2, cI, cD, cF, cA, UnrK, hf, slTkE]
    have hf1 : ¬ f < 0 := by omega
    have hf2 : ¬ 64 ≤ f := by omega
    simp [Try.ntmps12, Try.results12, cSl, cp0, cp1, cp2, cp3, cn0, cn1, cn2, cI, cD, cF, cA, UnrK, rCapI, rI, irowDec, hf1, hf2]
    refine loop_rounds 1 ?_
    simp [Try.ntmps12, Try.results12, cSl, cp0, cp1, cp2, cp3, cn0, cn1, cn2, cI, cD, cF, cA, UnrK, insertI, slTkE, Slb.hrow, Box.hrow, irow, insAt]
    done
  have h1' : ¬ L.length = 0 := fun h => h1 (List.length_eq_zero_iff.1 h)
  simp [Try.ntmps12, Try.results12, cSl, cp0, cp1, cp2, cp3, cn0, cn1, cn2, cI, cD, cF, cA, slV, slH, oA, h1]
  obtain ⟨q, hq⟩ : ∃ q, q = 16 / z := ⟨_, rfl⟩
  have e3 : (16 : Int) / (z : Int) = (q : Int) := by rw [hq]; rfl
  have hqz : q * z ≤ 16 := by rw [hq]; exact Nat.div_mul_le_self 16 z
  have hq16 : q ≤ 16 := by rw [hq]; exact Nat.div_le_self _ _
  have hz1 : 1 ≤ z ∧ z ≤ 16 := by omega
  have hz2 : 1 ≤ (z : Int) ∧ (z : Int) ≤ 16 := by omega
  have wkz : ∀ kk, kk < q → IntKind.i64.wrap ((kk : Int) * (z : Int)) = (kk : Int) * (z : Int) := fun kk hk => by
    have : kk * z ≤ q * z := Nat.mul_le_mul_right _ (by omega)
    have e : (kk : Int) * (z : Int) = ((kk * z : Nat) : Int) := by simp
    rw [e, w64 (by omega) (by omega)]
  cases hfi : L.findIdx? (holeB z) with
  | some i =>
    have hj : jOf ⟨(z : Int), L⟩ = i := by simp [jOf, hfi]
    rw [List.findIdx?_eq_some_iff_getElem] at hfi
    obtain ⟨hiL, hih, hin⟩ := hfi
    have hT : slTail i L.length L = [some (1, L[i].used.map (irow .i64))] := by unfold slTail; rw [if_pos hiL, List.getElem?_eq_getElem hiL]
    rw [hj, hT]
    have hlow : ∀ n, 8 ≤ n → ((slRows i 7 L).all fun row => row.all (lowA n)) = true := fun n h => slRows_low (by omega)
    have hview : ∀ (H : Heap) (d : Nat), obj H 7 = some (1, L[i].used.map (irow .i64)) → List.map (List.map (view H (d + 1))) (slRows i 7 L) = L.map Box.hrow := fun H d h => slRows_view fun _ => h
    simp [Try.ntmps12, Try.results12, cSl, cp0, cp1, cp2, cp3, cn0, cn1, cn2, cI, cD, cF, cA]
    refine loop_for L.length (fun k (_ : Unit) => ([(2, .ptr 0 2 0 0), (3, .ptr 1 1 0 0), (4, .ptr 2 2 0 0), (5, .ptr 3 2 0 0), (24, .osl 6 2 0 L.length L.length), (25, .v (.int .i64 L.length)), (26, .v (.int .i64 k))], [some (2, [[.v (.int .i64 z), .osl 6 2 0 L.length L.length]]), some (1, [[.v (.int .i64 f)]]), some (2, [[.v (.int .i64 0), .v (.slice none 0 0)]]), some (2, [[.v (.int .i64 0), .v (.int .i64 0)]]), none, none, some (2, slRows i 7 L), some (1, L[i].used.map (irow .i64))])) (fun k _ => k ≤ i) () (by omega) (by omega) ?_ ?_ ?_
    · simp [irow_low]
      simpa using hlow _ (by omega)
    · rintro k _ hk hki hw
      have hgr := slRows_get (j := i) (c := 7) hk
      have hrl : (slRows i 7 L).length = L.length := slRows_len
      rcases Nat.lt_or_eq_of_le hki with hlt | heq
      · rw [if_neg (by omega)] at hgr
        have hg2 : (slRows i 7 L)[k]'(by rw [hrl]; exact hk) = L[k].hrow := by
          rw [List.getElem?_eq_getElem (by rw [hrl]; exact hk)] at hgr
          simpa using hgr
        have hfull : ∀ kk, kk < q → ((kk : Int) * (z : Int)) ∈ L[k].used := fun kk hkk => by
          have hn : hole z L[k].used = none := by
            have := hin k hlt
            simpa [holeB] using this
          have := hole_none hn kk (by rw [← hq]; exact hkk)
          simpa using this
        have hu64 : L[k].used.length ≤ 4294967296 := by have := (hcp _ (List.getElem_mem hk)).2; omega
        simp [Try.ntmps12, Try.results12, cSl, cp0, cp1, cp2, cp3, cn0, cn1, cn2, cI, cD, cF, cA, hk, hw, hrl, hg2, Box.hrow, e3, rSlb, slbDec, rBox, hz2, hview]
        refine loop_for q (fun kk (_ : Unit) => ([(2, .ptr 0 2 0 0), (3, .ptr 1 1 0 0), (4, .ptr 2 2 0 0), (5, .ptr 3 2 0 0), (9, .v (.int .i64 k)), (10, .ptr 8 2 0 0), (24, .osl 6 2 0 L.length L.length), (25, .v (.int .i64 L.length)), (26, .v (.int .i64 k)), (32, .v (.int .i64 q)), (33, .v (.int .i64 kk))], [some (2, [[.v (.int .i64 z), .osl 6 2 0 L.length L.length]]), some (1, [[.v (.int .i64 f)]]), some (2, [[.v (.int .i64 0), .v (.slice none 0 0)]]), some (2, [[.v (.int .i64 0), .v (.int .i64 0)]]), none, none, some (2, slRows i 7 L), some (1, L[i].used.map (irow .i64))] ++ [some (2, [L[k].hrow])])) (fun kk _ => True) () (by omega) trivial ?_ ?_ ?_
        · simp [Box.hrow, irow_low]
          try simpa using hlow _ (by omega)
        · rintro kk _ hkk _ hw2
          have hm := hfull kk hkk
          simp [Try.ntmps12, Try.results12, cSl, cp0, cp1, cp2, cp3, cn0, cn1, cn2, cI, cD, cF, cA, hkk, hw2, wkz kk hkk, hm, Box.hrow, hu64, rI, irowDec]
          try simpa using hlow _ (by omega)
        · rintro _ _
          simp [Try.ntmps12, Try.results12, cSl, cp0, cp1, cp2, cp3, cn0, cn1, cn2, cI, cD, cF, cA, hw]
          try exact ⟨by omega, by simpa using hlow _ (by omega)⟩
      · subst heq
        rw [if_pos rfl] at hgr
        have hg2 : (slRows k 7 L)[k]'(by rw [hrl]; exact hk) = ownB 7 L[k] := by
          rw [List.getElem?_eq_getElem (by rw [hrl]; exact hk)] at hgr
          simpa using hgr
        obtain ⟨hh, hho⟩ : ∃ hh, hole z L[k].used = some hh := by
          unfold holeB at hih
          exact Option.isSome_iff_exists.1 hih
        obtain ⟨h21, h22, h23⟩ := hole_some hho
        obtain ⟨h24, _⟩ := okU_ins (by omega) (hK _ (List.getElem_mem hk)).2.2.2 hho
        rw [← hq] at h21
        have hu16 := okU_16 hz1.1 hz1.2 (hK _ (List.getElem_mem hk)).2.2.2
        have hu0 := (hK _ (List.getElem_mem hk)).2.2.1
        simp [Try.ntmps12, Try.results12, cSl, cp0, cp1, cp2, cp3, cn0, cn1, cn2, cI, cD, cF, cA, hk, hw, hrl, hg2, ownB, e3, rSlb, slbDec, rBox, hz2, hview]
        generalize hb : L[k] = b at *
        obtain ⟨bf, u⟩ := b
        simp only at h24 hu16 hu0 h22 h23
        refine loop_for q (fun kk (_ : Unit) => ([(2, .ptr 0 2 0 0), (3, .ptr 1 1 0 0), (4, .ptr 2 2 0 0), (5, .ptr 3 2 0 0), (9, .v (.int .i64 k)), (10, .ptr 8 2 0 0), (24, .osl 6 2 0 L.length L.length), (25, .v (.int .i64 L.length)), (26, .v (.int .i64 k)), (32, .v (.int .i64 q)), (33, .v (.int .i64 kk))], [some (2, [[.v (.int .i64 z), .osl 6 2 0 L.length L.length]]), some (1, [[.v (.int .i64 f)]]), some (2, [[.v (.int .i64 0), .v (.slice none 0 0)]]), some (2, [[.v (.int .i64 0), .v (.int .i64 0)]]), none, none, some (2, slRows k 7 L), some (1, u.map (irow .i64)), some (2, [[.v (.int .i64 bf), .osl 7 1 0 u.length u.length]])])) (fun kk _ => kk ≤ hh) () (by omega) (by omega) ?_ ?_ ?_
        · simp [irow_low]
          simpa using hlow _ (by omega)
        · rintro kk _ hkk hle hw2
          have hu64 : u.length ≤ 4294967296 := by omega
          rcases Nat.lt_or_eq_of_le hle with hlt | heq
          · have hm : ((kk : Int) * (z : Int)) ∈ u := by simpa using h23 kk hlt
            simp [Try.ntmps12, Try.results12, cSl, cp0, cp1, cp2, cp3, cn0, cn1, cn2, cI, cD, cF, cA, hkk, hw2, wkz kk hkk, hm, hu64, rI, irowDec, irow_low]
            exact ⟨by omega, by simpa using hlow _ (by omega)⟩
          · subst heq
            have hm : ¬ ((kk : Int) * (z : Int)) ∈ u := by simpa using h22
            have hu1 : u.length ≤ 1048576 := by omega
            simp [Try.ntmps12, Try.results12, cSl, cp0, cp1, cp2, cp3, cn0, cn1, cn2, cI, cD, cF, cA, hkk, hw2, wkz kk hkk, hm, hu64, hu1, h24, hk, hrl, hg2, ownB, rI, irowDec, insertI]
            have ht : ∀ r : Row, List.take L.length ((L.map Box.hrow).set k r) = (L.map Box.hrow).set k r := fun r => List.take_of_length_le (by simp)
            have c1 : u.length + 1 ≤ kk + (u.length - kk + 1) := by omega
            have c2 : ∀ r : Row, List.take (u.length + 1) (List.take kk (u.map (irow .i64)) ++ r :: List.drop kk (u.map (irow .i64))) = List.take kk (u.map (irow .i64)) ++ r :: List.drop kk (u.map (irow .i64)) := fun r => List.take_of_length_le (by simp; omega)
            have c3 : ∀ r : Row, hotC r = true → hotR ((L.map Box.hrow).set k r) = true := fun r hr => hotR_set (Box.hotR L) hr
            have c4 : ∀ m, hotR (List.take m (u.map (irow .i64))) = true := fun m => by rw [← List.map_take]; exact irow_hotR _
            have c5 : ∀ m, hotR (List.drop m (u.map (irow .i64))) = true := fun m => by rw [← List.map_drop]; exact irow_hotR _
            simp [slRows_vset, ht, hb, hho, slTkE, Slb.hrow, Box.hrow, c1, c2, c3, c4, c5, irow]
        · rintro _ h; omega
    · rintro _ h; omega
  | none =>
    have hj : jOf ⟨(z : Int), L⟩ = L.length := by simp [jOf, hfi]
    rw [List.findIdx?_eq_none_iff] at hfi
    have hT : slTail L.length L.length L = [] := by unfold slTail; rw [if_neg (Nat.lt_irrefl _)]
    rw [hj, hT]
    simp [Try.ntmps12, Try.results12, cSl, cp0, cp1, cp2, cp3, cn0, cn1, cn2, cI, cD, cF, cA, slRows_none]
    refine loop_for L.length (fun k (_ : Unit) => ([(2, .ptr 0 2 0 0), (3, .ptr 1 1 0 0), (4, .ptr 2 2 0 0), (5, .ptr 3 2 0 0), (24, .osl 6 2 0 L.length L.length), (25, .v (.int .i64 L.length)), (26, .v (.int .i64 k))], [some (2, [[.v (.int .i64 z), .osl 6 2 0 L.length L.length]]), some (1, [[.v (.int .i64 f)]]), some (2, [[.v (.int .i64 0), .v (.slice none 0 0)]]), some (2, [[.v (.int .i64 0), .v (.int .i64 0)]]), none, none, some (2, L.map Box.hrow)])) (fun k _ => True) () (by omega) trivial ?_ ?_ ?_
    · simp
    · rintro k _ hk _ hw
      have hfull : ∀ kk, kk < q → ((kk : Int) * (z : Int)) ∈ L[k].used := fun kk hkk => by
        have hn : hole z L[k].used = none := by
          have := hfi _ (List.getElem_mem hk)
          simpa [holeB] using this
        have := hole_none hn kk (by rw [← hq]; exact hkk)
        simpa using this
      have hu64 : L[k].used.length ≤ 4294967296 := by have := (hcp _ (List.getElem_mem hk)).2; omega
      simp [Try.ntmps12, Try.results12, cSl, cp0, cp1, cp2, cp3, cn0, cn1, cn2, cI, cD, cF, cA, hk, hw, Box.hrow, e3, rSlb, slbDec, rBox, hz2]
      refine loop_for q (fun kk (_ : Unit) => ([(2, .ptr 0 2 0 0), (3, .ptr 1 1 0 0), (4, .ptr 2 2 0 0), (5, .ptr 3 2 0 0), (9, .v (.int .i64 k)), (10, .ptr 7 2 0 0), (24, .osl 6 2 0 L.length L.length), (25, .v (.int .i64 L.length)), (26, .v (.int .i64 k)), (32, .v (.int .i64 q)), (33, .v (.int .i64 kk))], [some (2, [[.v (.int .i64 z), .osl 6 2 0 L.length L.length]]), some (1, [[.v (.int .i64 f)]]), some (2, [[.v (.int .i64 0), .v (.slice none 0 0)]]), some (2, [[.v (.int .i64 0), .v (.int .i64 0)]]), none, none, some (2, L.map Box.hrow)] ++ [some (2, [L[k].hrow])])) (fun kk _ => True) () (by omega) trivial ?_ ?_ ?_
      · simp [Box.hrow, irow_low]
        try simpa using hlow _ (by omega)
      · rintro kk _ hkk _ hw2
        have hm := hfull kk hkk
        simp [Try.ntmps12, Try.results12, cSl, cp0, cp1, cp2, cp3, cn0, cn1, cn2, cI, cD, cF, cA, hkk, hw2, wkz kk hkk, hm, Box.hrow, hu64, rI, irowDec]
        try simpa using hlow _ (by omega)
      · rintro _ _
        simp [Try.ntmps12, Try.results12, cSl, cp0, cp1, cp2, cp3, cn0, cn1, cn2, cI, cD, cF, cA, hw]
        try exact ⟨by omega, by simpa using hlow _ (by omega)⟩
    · rintro _ _
      by_cases hf : f < 0 ∨ 64 ≤ f
      · simp [Try.ntmps12, Try.results12, cSl, cp0, cp1, cp2, cp3, cn0, cn1, cn2, cI, cD, cF, cA, hf, slTkE]
        done
      have hf1 : ¬ f < 0 := by omega
      have hf2 : ¬ 64 ≤ f := by omega
      have hL2 : L.length ≤ 4294967296 := by omega
      by_cases ha : ∃ x, x ∈ L ∧ x.frame = f
      · have ha1 : (∃ x, x ∈ L ∧ x.frame = f) = True := eq_true ha
        simp [Try.ntmps12, Try.results12, cSl, cp0, cp1, cp2, cp3, cn0, cn1, cn2, cI, cD, cF, cA, hf1, hf2, ha1, hL2, slTkE, rCapI, rI, irowDec]
      · have ha1 : (∃ x, x ∈ L ∧ x.frame = f) = False := eq_false ha
        simp [Try.ntmps12, Try.results12, cSl, cp0, cp1, cp2, cp3, cn0, cn1, cn2, cI, cD, cF, cA, hf1, hf2, ha1, hL2, slTkE, rCapI, rI, irowDec]
        obtain ⟨i1, i2, i3⟩ := ins_spec L f
        generalize insAt L f = m at i1 i2 i3 ⊢
        refine loop_for m (fun k (_ : Unit) => ([(2, .ptr 0 2 0 0), (3, .ptr 1 1 0 0), (4, .ptr 2 2 0 0), (5, .ptr 3 2 0 0), (13, .v (.int .i64 k))], [some (2, [[.v (.int .i64 z), .osl 6 2 0 L.length L.length]]), some (1, [[.v (.int .i64 f)]]), some (2, [[.v (.int .i64 0), .v (.slice none 0 0)]]), some (2, [[.v (.int .i64 0), .v (.int .i64 0)]]), none, none, some (2, L.map Box.hrow)])) (fun _ _ => True) () (by omega) trivial ?_ ?_ ?_
        · simp
        · rintro k _ hk _ hw
          obtain ⟨g1, g2⟩ := i2 k hk
          have g1' : (k : Int) < L.length := by omega
          simp [Try.ntmps12, Try.results12, cSl, cp0, cp1, cp2, cp3, cn0, cn1, cn2, cI, cD, cF, cA, g1, g1', g2, hw, Box.hrow]
          done
        · rintro _ _
          have hL3 : L.length ≤ 1048576 := by omega
          have hpos : 0 < L.length := by omega
          rcases Nat.lt_or_eq_of_le i1 with hlt | heq
          · have g2 := i3 hlt
            have g1' : (m : Int) < L.length := by omega
            have hh1 : ∀ x : Row, List.take (L.length + 1) (List.take m (L.map Box.hrow) ++ x :: List.drop m (L.map Box.hrow)) = List.take m (L.map Box.hrow) ++ x :: List.drop m (L.map Box.hrow) := by
              intro x; apply List.take_of_length_le; simp; omega
            have hh2 : L.length + 1 ≤ m + (L.length - m + 1) := by omega
            have c4 : ∀ m, hotR (List.take m (L.map Box.hrow)) = true := fun m => by rw [← List.map_take]; exact Box.hotR _
            have c5 : ∀ m, hotR (List.drop m (L.map Box.hrow)) = true := fun m => by rw [← List.map_drop]; exact Box.hotR _
            simp [Try.ntmps12, Try.results12, cSl, cp0, cp1, cp2, cp3, cn0, cn1, cn2, cI, cD, cF, cA, hlt, g1', g2, i1, hL3, hpos, insertI, hh1, hh2, c4, c5, Box.hrow, Slb.hrow, irow]
          · subst heq
            have hh1 : ∀ x : Row, List.take (L.length + 1) (L.map Box.hrow ++ x :: List.drop L.length (L.map Box.hrow)) = L.map Box.hrow ++ [x] := by
              intro x
              rw [List.drop_eq_nil_of_le (by simp)]
              exact List.take_of_length_le (by simp)
            simp [Try.ntmps12, Try.results12, cSl, cp0, cp1, cp2, cp3, cn0, cn1, cn2, cI, cD, cF, cA, hL3, hpos, insertI, hh1, Box.hrow, Slb.hrow, irow]
end Go.Proofs.Ytfiindblaopaiaa
