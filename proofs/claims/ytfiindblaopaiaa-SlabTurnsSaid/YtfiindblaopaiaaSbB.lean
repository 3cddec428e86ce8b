/- Package slab: copied. -/
import Derived.Test.YtfiindblaopaiaaSbA
import Derived.Test.YtfiindblaopaiaaAiZe
namespace Go.Proofs.Ytfiindblaopaiaa
open Go.AI
set_option maxHeartbeats 2000000
set_option maxRecDepth 100000
set_option linter.unusedSimpArgs false
set_option linter.unusedVariables false
attribute [local simp] wpA wpX RunA RunD runF foot footP footB idsA bare apart runL step1 gsel_f gsel_t gsel_s res_same res_and1 res_and2 res_and3 res_and4 res_and5 res_and6 res_false res_true res_v res_ptr res_fptr res_osl res_xsl soft aAppendZ aCap ovlI ovlJ res_fsl res_esl res_agg res_tup res_fn res_junk res_anyb aPick hk imp_left iteV dstOk guardOk astep astepE AI.ev AI.look AI.put envOf aBox cellsOf allOne allOneA oneA Value.oneCell' Value.cells newObj' aFieldAddr aLoad obj readAt thenA blockA condA retA resA tupA view hot hotC hotR depthV cAgg cInt cBool mkAgg allV aAlloc aBuild fillA writeAt aStore isAggA aField idx aIndexAddr aIndex bnd aSlice aExtract aLen aBuiltin aCall isStatic eqAgg eqTy eqC ev_add ev_sub ev_mul ev_quo ev_rem ev_and ev_or ev_xor ev_andNot ev_shl ev_shr ev_eql ev_neq ev_lss ev_leq ev_gtr ev_geq ev_agg w64 wu32 wu8 ev_not ev_neg Cod.plain RCod.plain argM finM cold coldC coldR goInt intDec boolDec aggDec Weaker heapW lowA lowC Again slDec undef aBuildSlice setRows aAppend rowsOf aMakeSlice aClear aCopy softer_self softer_nil valsOf ev_min2 ev_max2 hotR_set hotR_append take_map_set irow_cold irow_mapM irow_mapMc irow_view irow_viewc irow_hotR irow_ren irow_renc irow_low WeakT heapT thOf ren renC AgainT NextF NextT fnDec cFn rNil selfLt natLt0 natLt1 getLastMap frame0 frame1 own0 own1 argG finG tau tauI tauO tauC bareA bareC bareH irow_tau irow_tauc irow_bare irow_flat irow_bareR ownA_nil ownT_nil ownA_c ownT_c ownA_s ownT_s takeMapLen footC plainA noId noIdC cloneF frame0F frame1F insertF replaceI replaceF cellDec rCell fpDec cFp rTwo deleteF allV_oA oneA_oA res_oA RunR RunE runFT footAt hotR_cat tmodN frameN newA newC newH fxSz2 fxBy2 fxAg2 fxZe2 fxSl2 fxAr2 fxPl2 fxSz3 fxBy3 fxAg3 fxZe3 fxSl3 fxAr3 fxPl3 fxSz4 fxBy4 fxAg4 fxZe4 fxSl4 fxAr4 fxPl4 fxSz5 fxBy5 fxAg5 fxZe5 fxSl5 fxAr5 fxPl5 fxSz9 fxBy9 fxAg9 fxZe9 fxSl9 fxAr9 fxPl9 fxSz12 fxBy12 fxAg12 fxZe12 fxSl12 fxAr12 fxPl12 fxSz13 fxBy13 fxAg13 fxZe13 fxSl13 fxAr13 fxFi13x0 fxFi13x1 fxPl13 fxSz21 fxBy21 fxAg21 fxZe21 fxSl21 fxAr21 fxPl21 fxSz22 fxBy22 fxAg22 fxZe22 fxSl22 fxAr22 fxPl22 fxSz23 fxBy23 fxAg23 fxZe23 fxSl23 fxAr23 fxFi23x0 fxFi23x1 fxPl23 fxSz24 fxBy24 fxAg24 fxZe24 fxSl24 fxAr24 fxFi24x0 fxFi24x1 fxPl24 fxSz25 fxBy25 fxAg25 fxZe25 fxSl25 fxAr25 fxFi25x0 fxFi25x1 fxPl25 fxSz26 fxBy26 fxAg26 fxZe26 fxSl26 fxAr26 fxFi26x0 fxFi26x1 fxPl26 fxSz27 fxBy27 fxAg27 fxZe27 fxSl27 fxAr27 fxPl27 fxSz34 fxBy34 fxAg34 fxZe34 fxSl34 fxAr34 fxPl34 fxSz37 fxBy37 fxAg37 fxZe37 fxSl37 fxAr37 fxPl37 fxSz45 fxBy45 fxAg45 fxZe45 fxSl45 fxAr45 fxFi45x0 fxFi45x1 fxPl45 fxSz46 fxBy46 fxAg46 fxZe46 fxSl46 fxAr46 fxFi46x0 fxFi46x1 fxPl46 fxSz48 fxBy48 fxAg48 fxZe48 fxSl48 fxAr48 fxPl48 fxSz49 fxBy49 fxAg49 fxZe49 fxSl49 fxAr49 fxPl49 fxSz50 fxBy50 fxAg50 fxZe50 fxSl50 fxAr50 fxFi50x0 fxFi50x1 fxPl50 fxSz51 fxBy51 fxAg51 fxZe51 fxSl51 fxAr51 fxFi51x0 fxFi51x1 fxPl51 fxSz57 fxBy57 fxAg57 fxZe57 fxSl57 fxAr57 fxPl57 fxSz69 fxBy69 fxAg69 fxZe69 fxSl69 fxAr69 fxPl69 fxSz70 fxBy70 fxAg70 fxZe70 fxSl70 fxAr70 fxPl70 fxSz92 fxBy92 fxAg92 fxZe92 fxSl92 fxAr92 fxPl92 fxSz107 fxBy107 fxAg107 fxZe107 fxSl107 fxAr107 fxPl107 fxSz108 fxBy108 fxAg108 fxZe108 fxSl108 fxAr108 fxFi108x0 fxPl108 fxSz111 fxBy111 fxAg111 fxZe111 fxSl111 fxAr111 fxPl111 fxSz115 fxBy115 fxAg115 fxZe115 fxSl115 fxAr115 fxPl115 fxSz120 fxBy120 fxAg120 fxZe120 fxSl120 fxAr120 fxPl120 fxEq26 fxEq70 fxCv2x2 fxCv2x3 fxCv2x5 fxCv2x12 fxCv2x21 fxCv2x27 fxCv2x111 fxCv3x2 fxCv3x3 fxCv3x5 fxCv3x12 fxCv3x21 fxCv3x27 fxCv3x111 fxCv5x2 fxCv5x3 fxCv5x5 fxCv5x12 fxCv5x21 fxCv5x27 fxCv5x111 fxCv12x2 fxCv12x3 fxCv12x5 fxCv12x12 fxCv12x21 fxCv12x27 fxCv12x111 fxCv21x2 fxCv21x3 fxCv21x5 fxCv21x12 fxCv21x21 fxCv21x27 fxCv21x111 fxCv27x2 fxCv27x3 fxCv27x5 fxCv27x12 fxCv27x21 fxCv27x27 fxCv27x111 fxCv111x2 fxCv111x3 fxCv111x5 fxCv111x12 fxCv111x21 fxCv111x27 fxCv111x111 fxEb4 fxNb4 fxLt9 fxLn22 fxNe22 fxNn22 fxOe22 fxOn22 fxXe22 fxXn22 fxLn34 fxNe34 fxNn34 fxOe34 fxOn34 fxXe34 fxXn34 fxLn37 fxNe37 fxNn37 fxOe37 fxOn37 fxXe37 fxXn37 fxLn48 fxNe48 fxNn48 fxOe48 fxOn48 fxXe48 fxXn48 fxLn49 fxNe49 fxNn49 fxOe49 fxOn49 fxXe49 fxXn49 fxLn57 fxNe57 fxNn57 fxOe57 fxOn57 fxXe57 fxXn57 fxLn69 fxNe69 fxNn69 fxOe69 fxOn69 fxXe69 fxXn69 fxLn92 fxNe92 fxNn92 fxOe92 fxOn92 fxXe92 fxXn92 fxFn3 fxFm3 fxFb3 fxFi3 fxFj3 fxFn4 fxFm4 fxFb4 fxFi4 fxFj4 fxFn5 fxFm5 fxFb5 fxFi5 fxFj5 fxFn6 fxFm6 fxFb6 fxFi6 fxFj6 fxFn7 fxFm7 fxFb7 fxFi7 fxFj7 fxFn8 fxFm8 fxFb8 fxFi8 fxFj8 fxFn9 fxFm9 fxFb9 fxFi9 fxFj9 fxFn10 fxFm10 fxFb10 fxFi10 fxFj10 fxFn11 fxFm11 fxFb11 fxFi11 fxFj11 fxFn12 fxFm12 fxFb12 fxFi12 fxFj12 fxFn13 fxFm13 fxFb13 fxFi13 fxFj13 fxFn14 fxFm14 fxFb14 fxFi14 fxFj14 fxFn15 fxFm15 fxFb15 fxFi15 fxFj15 fxFn16 fxFm16 fxFb16 fxFi16 fxFj16 fxFn17 fxFm17 fxFb17 fxFi17 fxFj17 fxFn18 fxFm18 fxFb18 fxFi18 fxFj18 fxFn19 fxFm19 fxFb19 fxFi19 fxFj19 fxFn20 fxFm20 fxFb20 fxFi20 fxFj20 fxFn21 fxFm21 fxFb21 fxFi21 fxFj21 fxFn22 fxFm22 fxFb22 fxFi22 fxFj22 fxFn23 fxFm23 fxFb23 fxFi23 fxFj23 fxFn24 fxFm24 fxFb24 fxFi24 fxFj24 fxFn25 fxFm25 fxFb25 fxFi25 fxFj25 fxFn26 fxFm26 fxFb26 fxFi26 fxFj26 fxFn27 fxFm27 fxFb27 fxFi27 fxFj27 fxFn28 fxFm28 fxFb28 fxFi28 fxFj28 fxFn29 fxFm29 fxFb29 fxFi29 fxFj29 fxFn30 fxFm30 fxFb30 fxFi30 fxFj30 fxFn31 fxFm31 fxFb31 fxFi31 fxFj31 fxFn32 fxFm32 fxFb32 fxFi32 fxFj32 fxFn33 fxFm33 fxFb33 fxFi33 fxFj33 fxFn34 fxFm34 fxFb34 fxFi34 fxFj34 fxFn35 fxFm35 fxFb35 fxFi35 fxFj35 fxFn36 fxFm36 fxFb36 fxFi36 fxFj36 fxFn37 fxFm37 fxFb37 fxFi37 fxFj37 fxFn38 fxFm38 fxFb38 fxFi38 fxFj38 fxFn39 fxFm39 fxFb39 fxFi39 fxFj39 fxFn40 fxFm40 fxFb40 fxFi40 fxFj40 fxFn41 fxFm41 fxFb41 fxFi41 fxFj41 fxFn42 fxFm42 fxFb42 fxFi42 fxFj42 fxFn43 fxFm43 fxFb43 fxFi43 fxFj43 fxFn44 fxFm44 fxFb44 fxFi44 fxFj44 fxFn45 fxFm45 fxFb45 fxFi45 fxFj45 fxFn46 fxFm46 fxFb46 fxFi46 fxFj46 fxFn47 fxFm47 fxFb47 fxFi47 fxFj47 fxFn48 fxFm48 fxFb48 fxFi48 fxFj48 fxFn49 fxFm49 fxFb49 fxFi49 fxFj49 fxFn50 fxFm50 fxFb50 fxFi50 fxFj50 fxFn51 fxFm51 fxFb51 fxFi51 fxFj51 fxFn52 fxFm52 fxFb52 fxFi52 fxFj52 fxFn53 fxFm53 fxFb53 fxFi53 fxFj53 fxFn54 fxFm54 fxFb54 fxFi54 fxFj54 fxFn55 fxFm55 fxFb55 fxFi55 fxFj55 fxFn56 fxFm56 fxFn57 fxFm57 fxFb57 fxFi57 fxFj57 fxFn58 fxFm58 fxFb58 fxFi58 fxFj58 fxFn59 fxFm59 fxFn60 fxFm60 fxFb60 fxFi60 fxFj60 fxFn61 fxFm61 fxFb61 fxFi61 fxFj61 fxFn62 fxFm62 fxFb62 fxFi62 fxFj62 fxFn63 fxFm63 fxFb63 fxFi63 fxFj63 fxFn64 fxFm64 fxFb64 fxFi64 fxFj64 fxFn65 fxFm65 fxFb65 fxFi65 fxFj65 fxFn66 fxFm66 fxFb66 fxFi66 fxFj66
attribute [local simp] Place.eta Place.cold Place.mapM Place.mapMc Place.view Place.viewc Place.hotR Place.ren Place.renc Place.low Place.tau Place.tauc Place.bare Place.flat Place.flat1 Place.mapMt Place.mapMd Place.coldt Place.coldd Place.hotRt Place.hotRd
attribute [local simp] Box.eta Box.dec_row Box.dec_hrow Box.cold Box.hcold Box.mapM Box.mapMc Box.hmapM Box.hmapMc Box.view Box.viewc Box.hview Box.hviewc Box.hotR Box.ren Box.renc Box.low Box.hlow
attribute [local simp] Slb.eta Slb.dec_row Slb.dec_hrow
theorem clBox : InlOk Try.prog 55 (cloneI 2) := by
  refine inl_soft Try.func55 rfl ?_
  intro args H r H' hr
  rcases cloneI_some hr with ⟨o, rows, rfl, hl, hc⟩ | ⟨id, st, k, kc, rows, rfl, hob, hle, hl, hc⟩ | ⟨rfl, rfl, rfl⟩
  · refine ⟨by simp [Try.ntmps55], wpA_sound noOrc_ok fxMix _ _ _ _ (by kernel_rfl) ?_⟩
    rcases hc with ⟨rfl, rfl, rfl⟩ | ⟨h0, rfl, rfl⟩
    · simp [Try.ntmps55, Try.results55, noOrc]
    · simp [Try.ntmps55, Try.results55, h0, hl, noOrc]
  · refine ⟨by simp [Try.ntmps55], wpA_sound noOrc_ok fxMix _ _ _ _ (by kernel_rfl) ?_⟩
    have hob' := obj_get hob
    have e1 : min k (rows.length - st) = k := by omega
    have e2 : st + k ≤ rows.length := hle
    have e3 : st ≤ rows.length := by omega
    rcases hc with ⟨rfl, rfl, rfl⟩ | ⟨h0, rfl, rfl⟩
    · simp [Try.ntmps55, Try.results55, noOrc, hob', e2, e3]
    · simp [Try.ntmps55, Try.results55, hl, noOrc, hob', e1, e2, h0]
  · refine ⟨by simp [Try.ntmps55], wpA_sound noOrc_ok fxMix _ _ _ _ (by kernel_rfl) ?_⟩
    simp [Try.ntmps55, Try.results55, noOrc]
theorem clInt : InlOk Try.prog 49 (cloneI 1) := by
  refine inl_soft Try.func49 rfl ?_
  intro args H r H' hr
  rcases cloneI_some hr with ⟨o, rows, rfl, hl, hc⟩ | ⟨id, st, k, kc, rows, rfl, hob, hle, hl, hc⟩ | ⟨rfl, rfl, rfl⟩
  · refine ⟨by simp [Try.ntmps49], wpA_sound noOrc_ok fxMix _ _ _ _ (by kernel_rfl) ?_⟩
    rcases hc with ⟨rfl, rfl, rfl⟩ | ⟨h0, rfl, rfl⟩
    · simp [Try.ntmps49, Try.results49, noOrc]
    · simp [Try.ntmps49, Try.results49, h0, hl, noOrc]
  · refine ⟨by simp [Try.ntmps49], wpA_sound noOrc_ok fxMix _ _ _ _ (by kernel_rfl) ?_⟩
    have hob' := obj_get hob
    have e1 : min k (rows.length - st) = k := by omega
    have e2 : st + k ≤ rows.length := hle
    have e3 : st ≤ rows.length := by omega
    rcases hc with ⟨rfl, rfl, rfl⟩ | ⟨h0, rfl, rfl⟩
    · simp [Try.ntmps49, Try.results49, noOrc, hob', e2, e3]
    · simp [Try.ntmps49, Try.results49, hl, noOrc, hob', e1, e2, h0]
  · refine ⟨by simp [Try.ntmps49], wpA_sound noOrc_ok fxMix _ _ _ _ (by kernel_rfl) ?_⟩
    simp [Try.ntmps49, Try.results49, noOrc]
/-- boxes, copied up to one: the j-th one's places are an object's, all other ones' are frozen -/
def ownB (c : Nat) (x : Box) : Row := [.v (.int .i64 x.frame), .osl c 1 0 x.used.length x.used.length]
def slMix (j k c : Nat) (L : List Box) : List Row := L.mapIdx fun i x => if i < k then (if i = j then ownB c x else x.hrow) else x.row
def slRows (j c : Nat) (L : List Box) : List Row := L.mapIdx fun i x => if i = j then ownB c x else x.hrow
def slTail (j k : Nat) (L : List Box) : Heap := if j < k then (match L[j]? with | some x => [some (1, x.used.map (irow .i64))] | none => []) else []
theorem slMix_len {j k c : Nat} {L : List Box} : (slMix j k c L).length = L.length := by simp [slMix]
theorem slRows_len {j c : Nat} {L : List Box} : (slRows j c L).length = L.length := by simp [slRows]
theorem slMix_get {j k c i : Nat} {L : List Box} (hi : i < L.length) : (slMix j k c L)[i]? = some (if i < k then (if i = j then ownB c L[i] else L[i].hrow) else L[i].row) := by
  simp [slMix, List.getElem?_mapIdx, hi]
theorem slRows_get {j c i : Nat} {L : List Box} (hi : i < L.length) : (slRows j c L)[i]? = some (if i = j then ownB c L[i] else L[i].hrow) := by
  simp [slRows, List.getElem?_mapIdx, hi]
theorem slMix_zero {j c : Nat} {L : List Box} : slMix j 0 c L = L.map Box.row := by
  apply List.ext_getElem?
  intro i
  simp [slMix, List.getElem?_mapIdx]
theorem slMix_all {j c : Nat} {L : List Box} : slMix j L.length c L = slRows j c L := by
  apply List.ext_getElem?
  intro i
  by_cases hi : i < L.length
  · rw [slMix_get hi, slRows_get hi, if_pos hi]
  · rw [List.getElem?_eq_none (by rw [slMix_len]; omega), List.getElem?_eq_none (by rw [slRows_len]; omega)]
theorem slMix_set {j k c : Nat} {L : List Box} (hk : k < L.length) : (slMix j k c L).set k (if k = j then ownB c L[k] else L[k].hrow) = slMix j (k + 1) c L := by
  apply List.ext_getElem?
  intro i
  by_cases hi : i < L.length
  · rw [slMix_get hi]
    by_cases e : i = k
    · subst e
      rw [List.getElem?_set_self (by rw [slMix_len]; exact hi), if_pos (show i < i + 1 by omega)]
    · rw [List.getElem?_set_ne (fun h => e h.symm), slMix_get hi]
      by_cases h : i < k
      · rw [if_pos h, if_pos (show i < k + 1 by omega)]
      · rw [if_neg h, if_neg (show ¬ i < k + 1 by omega)]
  · rw [List.getElem?_eq_none (by rw [List.length_set, slMix_len]; omega), List.getElem?_eq_none (by rw [slMix_len]; omega)]
theorem slMix_low {j k c n : Nat} {L : List Box} (h : c < n ∨ k ≤ j ∨ L.length ≤ j) : ((slMix j k c L).all fun row => row.all (lowA n)) = true := by
  rw [List.all_eq_true]
  intro r hr
  obtain ⟨i, hi⟩ := List.getElem?_of_mem hr
  have hil : i < L.length := by have := (List.getElem?_eq_some_iff.1 hi).1; rwa [slMix_len] at this
  rw [slMix_get hil] at hi
  simp only [Option.some.injEq] at hi
  subst hi
  split
  · split
    · simp [ownB, lowA]; omega
    · simp [Box.hrow, lowA]
  · simp [Box.row, lowA]
theorem slRows_low {j c n : Nat} {L : List Box} (h : c < n ∨ L.length ≤ j) : ((slRows j c L).all fun row => row.all (lowA n)) = true := by
  rw [← slMix_all]; exact slMix_low (by omega)
theorem slTail_len {j k : Nat} {L : List Box} : (slTail j k L).length = if j < k ∧ j < L.length then 1 else 0 := by
  unfold slTail
  by_cases h : j < k
  · rw [if_pos h]
    by_cases h2 : j < L.length
    · rw [List.getElem?_eq_getElem h2, if_pos ⟨h, h2⟩]; rfl
    · rw [List.getElem?_eq_none (by omega), if_neg (by omega)]; rfl
  · rw [if_neg h, if_neg (by omega)]; rfl
theorem slTail_self {j k n : Nat} {L : List Box} : heapW n (slTail j k L) (slTail j k L) := by
  unfold slTail
  split
  · split
    · simp [heapW, irow_low]
    · exact trivial
  · exact trivial
theorem irow_flatL {k : IntKind} {u : List Int} : ∀ r ∈ u.map (irow k), r.all (lowA 0) = true := by
  intro r hr
  obtain ⟨a, _, rfl⟩ := List.mem_map.1 hr
  exact irow_low 0 a
def slV (s : Slb) (b : Nat) : AVal := .agg [.v (.int .i64 s.size), oA b 2 s.boxes.length]
def slH (j : Nat) (s : Slb) (b : Nat) : Heap := if s.boxes = [] then [] else some (2, slRows j (b + 1) s.boxes) :: slTail j s.boxes.length s.boxes
theorem cpy_own (j : Nat) : InlOk Try.prog 35 (own0 (argG (cAgg rSlb) fun s => finG (if s.boxes.length ≤ 64 ∧ ∀ b ∈ s.boxes, b.used ≠ [] ∧ b.used.length ≤ 64 then some ((slV s 2, none :: none :: slH j s 2)) else none))) := by
  refine ownE_1 Try.func35 rfl ?_
  rintro s r H' hr
  by_cases hc : s.boxes.length ≤ 64 ∧ ∀ b ∈ s.boxes, b.used ≠ [] ∧ b.used.length ≤ 64
  case neg => rw [if_neg hc] at hr; cases hr
  rw [if_pos hc] at hr
  simp only [Option.some.injEq, Prod.mk.injEq] at hr
  obtain ⟨rfl, rfl⟩ := hr
  refine bodyE_of (((noOrc_ok.withIF clBox clone_loc).withIF clInt clone_loc).withD (fun i => if i = 5 then [(1,9)] else [])) fxMix (by kernel_rfl) (by simp [Try.ntmps35]) ?_
  intro C cP cI cN cD cF cA
  have cn0 := orcI clBox (C := C) (by rw [cN]; rfl)
  have cn1 := orcI clInt (C := C) (by rw [cN]; rfl)
  replace cI := fun g => congrFun cI g
  simp only [Orc.withP, Orc.withI, Orc.withF, Orc.withD, Orc.withA, noOrc] at cI
  replace cD : C.dyn = fun i => if i = 5 then [(1,9)] else [] := cD
  replace cF := fun g => congrFun cF g
  simp only [Orc.withP, Orc.withI, Orc.withF, Orc.withD, Orc.withA, noOrc] at cF
  replace cA : C.alt = fun _ => [] := cA
  clear cP cN
  obtain ⟨z, L⟩ := s
  simp only at hc
  obtain ⟨hL, hc⟩ := hc
  have hL2 : L.length ≤ 4294967296 := by omega
  by_cases h1 : L = []
  · subst h1
    simp [Try.ntmps35, Try.results35, cSl, cn0, cn1, cI, cD, cF, cA, rSlb, Slb.row, cloneI]
    refine loop_rounds 1 ?_
    simp [Try.ntmps35, Try.results35, cSl, cn0, cn1, cI, cD, cF, cA, UnrK, slV, slH, oA]
    exact .weak (by simp)
  have h1' : ¬ L.length = 0 := fun h => h1 (List.length_eq_zero_iff.1 h)
  simp [Try.ntmps35, Try.results35, cSl, cn0, cn1, cI, cD, cF, cA, rSlb, Slb.row, cloneI, h1, hL2]
  refine loop_forE L.length (fun k (_ : Unit) => ([(1, .ptr 0 2 0 0), (2, .ptr 1 2 0 0), (10, .v (.int .i64 L.length)), (11, .v (.int .i64 k))], [some (2, [[.v (.int .i64 z), .osl 2 2 0 L.length L.length]]), some (2, [[.v (.int .i64 0), .v (.slice none 0 0)]]), some (2, slMix j k 3 L)] ++ slTail j k L)) (fun k _ => True) () (by rintro k _ h _; omega) trivial ?_ ?_ ?_
  · refine Ent.weak ?_
    simp [slMix_zero, slTail]
  · rintro k _ hk _ hw
    have hgm := slMix_get (j := j) (k := k) (c := 3) hk
    rw [if_neg (Nat.lt_irrefl k)] at hgm
    have hln : (slMix j k 3 L).length = L.length := slMix_len
    have hg2 : (slMix j k 3 L)[k]'(by rw [hln]; exact hk) = L[k].row := by
      rw [List.getElem?_eq_getElem (by rw [hln]; exact hk)] at hgm
      simpa using hgm
    have hs := slMix_set (j := j) (c := 3) hk
    obtain ⟨hu0, hu64⟩ := hc _ (List.getElem_mem hk)
    generalize hb : L[k] = b at *
    obtain ⟨f, u⟩ := b
    simp only at hu0 hu64
    have hu2 : u.length ≤ 4294967296 := by omega
    rcases Nat.lt_trichotomy k j with hkj | hkj | hkj
    · have hT : slTail j k L = [] := by unfold slTail; rw [if_neg (by omega)]
      have hT2 : slTail j (k + 1) L = [] := by unfold slTail; rw [if_neg (by omega)]
      rw [if_neg (by omega)] at hs
      simp [Try.ntmps35, Try.results35, cSl, cn0, cn1, cI, cD, cF, cA, hk, hw, hg2, hln, hT, Box.row, cloneI, hu0, hu2]
      simp only [Box.hrow] at hs
      have hlow : ((slMix j (k + 1) 3 L).all fun row => row.all (lowA 3)) = true := slMix_low (by omega)
      refine ⟨(), trivial, .trans (.weak ?_) (.frz (n := 3) (M := 2) (i := k) (j := 1) (len := u.length) (rows := u.map (irow .i64)) rfl (by simp) irow_flatL rfl (by omega) (by rw [List.getElem?_set_self (by rw [hln]; exact hk)]) rfl)⟩
      simp [hT2, hs]
      simpa using hlow
    · subst hkj
      have hT : slTail k k L = [] := by unfold slTail; rw [if_neg (by omega)]
      have hT2 : slTail k (k + 1) L = [some (1, u.map (irow .i64))] := by unfold slTail; rw [if_pos (by omega), List.getElem?_eq_getElem hk, hb]
      rw [if_pos rfl] at hs
      simp [Try.ntmps35, Try.results35, cSl, cn0, cn1, cI, cD, cF, cA, hk, hw, hg2, hln, hT, Box.row, cloneI, hu0, hu2]
      simp only [ownB] at hs
      have hlow : ((slMix k (k + 1) 3 L).all fun row => row.all (lowA 4)) = true := slMix_low (by omega)
      refine ⟨(), trivial, .weak ?_⟩
      simp [hT2, hs, irow_low]
      simpa using hlow
    · have hjL : j < L.length := by omega
      have hT : slTail j k L = [some (1, L[j].used.map (irow .i64))] := by unfold slTail; rw [if_pos (by omega), List.getElem?_eq_getElem hjL]
      have hT2 : slTail j (k + 1) L = [some (1, L[j].used.map (irow .i64))] := by unfold slTail; rw [if_pos (by omega), List.getElem?_eq_getElem hjL]
      rw [if_neg (by omega)] at hs
      simp [Try.ntmps35, Try.results35, cSl, cn0, cn1, cI, cD, cF, cA, hk, hw, hg2, hln, hT, Box.row, cloneI, hu0, hu2]
      simp only [Box.hrow] at hs
      have hlow : ((slMix j (k + 1) 3 L).all fun row => row.all (lowA 4)) = true := slMix_low (by omega)
      refine ⟨(), trivial, .trans (.weak ?_) (.frz (n := 4) (M := 2) (i := k) (j := 1) (len := u.length) (rows := u.map (irow .i64)) rfl (by simp) irow_flatL rfl (by omega) (by rw [List.getElem?_set_self (by rw [hln]; exact hk)]) rfl)⟩
      simp [hT2, hs, irow_low]
      simpa using hlow
  · rintro _ _
    have hlen := slTail_len (j := j) (k := L.length) (L := L)
    have hlow : ((slRows j 3 L).all fun row => row.all (lowA ((slTail j L.length L).length + 3))) = true := slRows_low (by rw [hlen]; split <;> omega)
    simp [Try.ntmps35, Try.results35, cSl, cn0, cn1, cI, cD, cF, cA, slMix_all, slV, slH, oA, h1]
    refine .weak ?_
    simp
    exact ⟨by simpa using hlow, slTail_self⟩
theorem sl_new (s : Slb) (b : Nat) : newA (slV s b) = true := by
  simp only [slV, newA, newC, oA]; split <;> rfl
theorem rows_new (j c : Nat) (L : List Box) : ((slRows j c L).all fun row => row.all newA) = true := by
  rw [List.all_eq_true]
  intro r hr
  obtain ⟨i, hi⟩ := List.getElem?_of_mem hr
  have hil : i < L.length := by have := (List.getElem?_eq_some_iff.1 hi).1; rwa [slRows_len] at this
  rw [slRows_get hil] at hi
  simp only [Option.some.injEq] at hi
  subst hi
  split
  · simp [ownB, newA]
  · simp [Box.hrow, newA]
theorem sl_newH (j : Nat) (s : Slb) (b : Nat) : newH (slH j s b) = true := by
  unfold slH
  split
  · rfl
  · simp only [newH, rows_new, Bool.true_and]
    unfold slTail
    split
    · split
      · simp [newH, irow, newA]
      · rfl
    · rfl
theorem sl_tau (s : Slb) (b n : Nat) : tau [] n (slV s b) = slV s (n + b) := by
  simp only [slV, tau, tauC, tau_oA]
theorem sl_tauO (j : Nat) (s : Slb) (b n : Nat) : (slH j s b).map (tauO [] n) = slH j s (n + b) := by
  unfold slH
  split
  · rfl
  · simp only [List.map_cons, tauO]
    have e1 : (slRows j (b + 1) s.boxes).map (List.map (tau [] n)) = slRows j (n + b + 1) s.boxes := by
      apply List.ext_getElem?
      intro i
      rw [List.getElem?_map]
      by_cases hi : i < s.boxes.length
      · rw [slRows_get hi, slRows_get hi]
        split
        · simp [ownB, tau, tauI]; omega
        · simp [Box.hrow, tau]
      · rw [List.getElem?_eq_none (by rw [slRows_len]; omega), List.getElem?_eq_none (by rw [slRows_len]; omega)]; rfl
    rw [e1]
    congr 1
    unfold slTail
    split
    · split
      · simp [tauO, irow_tauc]
      · rfl
    · rfl
theorem cpy_inl (j : Nat) : InlOk Try.prog 35 (frameN (own0 (argG (cAgg rSlb) fun s => finG (if s.boxes.length ≤ 64 ∧ ∀ b ∈ s.boxes, b.used ≠ [] ∧ b.used.length ≤ 64 then some ((slV s 2, none :: none :: slH j s 2)) else none)))) := frameN_ok (cpy_own j)
end Go.Proofs.Ytfiindblaopaiaa
