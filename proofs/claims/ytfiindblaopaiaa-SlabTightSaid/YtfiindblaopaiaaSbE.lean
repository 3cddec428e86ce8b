/- Package slab: Give, Many. -/
import Derived.Test.YtfiindblaopaiaaSbD
import Derived.Test.YtfiindblaopaiaaAiZe
namespace Go.Proofs.Ytfiindblaopaiaa
open Go.AI
set_option maxHeartbeats 2000000
set_option maxRecDepth 100000
set_option linter.unusedSimpArgs false
set_option linter.unusedVariables false
attribute [local simp] wpA wpX RunA RunD runF foot footP footB idsA bare apart runL step1 gsel_f gsel_t gsel_s res_same res_and1 res_and2 res_and3 res_and4 res_and5 res_and6 res_false res_true res_v res_ptr res_fptr res_osl res_xsl soft aAppendZ aCap ovlI ovlJ res_fsl res_esl res_agg res_tup res_fn res_junk res_anyb aPick hk imp_left iteV dstOk guardOk astep astepE AI.ev AI.look AI.put envOf aBox cellsOf allOne allOneA oneA Value.oneCell' Value.cells newObj' aFieldAddr aLoad obj readAt thenA blockA condA retA resA tupA view hot hotC hotR depthV cAgg cInt cBool mkAgg allV aAlloc aBuild fillA writeAt aStore isAggA aField idx aIndexAddr aIndex bnd aSlice aExtract aLen aBuiltin aCall isStatic eqAgg eqTy eqC ev_add ev_sub ev_mul ev_quo ev_rem ev_and ev_or ev_xor ev_andNot ev_shl ev_shr ev_eql ev_neq ev_lss ev_leq ev_gtr ev_geq ev_agg w64 wu32 wu8 ev_not ev_neg Cod.plain RCod.plain argM finM cold coldC coldR goInt intDec boolDec aggDec Weaker heapW lowA lowC Again slDec undef aBuildSlice setRows aAppend rowsOf aMakeSlice aClear aCopy softer_self softer_nil valsOf ev_min2 ev_max2 hotR_set hotR_append take_map_set irow_cold irow_mapM irow_mapMc irow_view irow_viewc irow_hotR irow_ren irow_renc irow_low WeakT heapT thOf ren renC AgainT NextF NextT fnDec cFn rNil selfLt natLt0 natLt1 getLastMap frame0 frame1 own0 own1 argG finG tau tauI tauO tauC bareA bareC bareH irow_tau irow_tauc irow_bare irow_flat irow_bareR ownA_nil ownT_nil ownA_c ownT_c ownA_s ownT_s takeMapLen footC plainA noId noIdC cloneF frame0F frame1F insertF replaceI replaceF cellDec rCell fpDec cFp rTwo deleteF allV_oA oneA_oA res_oA RunR RunE runFT footAt hotR_cat tmodN frameN newA newC newH fxSz2 fxBy2 fxAg2 fxZe2 fxSl2 fxAr2 fxPl2 fxSz3 fxBy3 fxAg3 fxZe3 fxSl3 fxAr3 fxPl3 fxSz4 fxBy4 fxAg4 fxZe4 fxSl4 fxAr4 fxPl4 fxSz5 fxBy5 fxAg5 fxZe5 fxSl5 fxAr5 fxPl5 fxSz9 fxBy9 fxAg9 fxZe9 fxSl9 fxAr9 fxPl9 fxSz12 fxBy12 fxAg12 fxZe12 fxSl12 fxAr12 fxPl12 fxSz13 fxBy13 fxAg13 fxZe13 fxSl13 fxAr13 fxFi13x0 fxFi13x1 fxPl13 fxSz21 fxBy21 fxAg21 fxZe21 fxSl21 fxAr21 fxPl21 fxSz22 fxBy22 fxAg22 fxZe22 fxSl22 fxAr22 fxPl22 fxSz23 fxBy23 fxAg23 fxZe23 fxSl23 fxAr23 fxFi23x0 fxFi23x1 fxPl23 fxSz24 fxBy24 fxAg24 fxZe24 fxSl24 fxAr24 fxFi24x0 fxFi24x1 fxPl24 fxSz25 fxBy25 fxAg25 fxZe25 fxSl25 fxAr25 fxFi25x0 fxFi25x1 fxPl25 fxSz26 fxBy26 fxAg26 fxZe26 fxSl26 fxAr26 fxFi26x0 fxFi26x1 fxPl26 fxSz27 fxBy27 fxAg27 fxZe27 fxSl27 fxAr27 fxPl27 fxSz34 fxBy34 fxAg34 fxZe34 fxSl34 fxAr34 fxPl34 fxSz37 fxBy37 fxAg37 fxZe37 fxSl37 fxAr37 fxPl37 fxSz45 fxBy45 fxAg45 fxZe45 fxSl45 fxAr45 fxFi45x0 fxFi45x1 fxPl45 fxSz46 fxBy46 fxAg46 fxZe46 fxSl46 fxAr46 fxFi46x0 fxFi46x1 fxPl46 fxSz48 fxBy48 fxAg48 fxZe48 fxSl48 fxAr48 fxPl48 fxSz49 fxBy49 fxAg49 fxZe49 fxSl49 fxAr49 fxPl49 fxSz50 fxBy50 fxAg50 fxZe50 fxSl50 fxAr50 fxFi50x0 fxFi50x1 fxPl50 fxSz51 fxBy51 fxAg51 fxZe51 fxSl51 fxAr51 fxFi51x0 fxFi51x1 fxPl51 fxSz57 fxBy57 fxAg57 fxZe57 fxSl57 fxAr57 fxPl57 fxSz69 fxBy69 fxAg69 fxZe69 fxSl69 fxAr69 fxPl69 fxSz70 fxBy70 fxAg70 fxZe70 fxSl70 fxAr70 fxPl70 fxSz92 fxBy92 fxAg92 fxZe92 fxSl92 fxAr92 fxPl92 fxSz107 fxBy107 fxAg107 fxZe107 fxSl107 fxAr107 fxPl107 fxSz108 fxBy108 fxAg108 fxZe108 fxSl108 fxAr108 fxFi108x0 fxPl108 fxSz111 fxBy111 fxAg111 fxZe111 fxSl111 fxAr111 fxPl111 fxSz115 fxBy115 fxAg115 fxZe115 fxSl115 fxAr115 fxPl115 fxSz120 fxBy120 fxAg120 fxZe120 fxSl120 fxAr120 fxPl120 fxEq26 fxEq70 fxCv2x2 fxCv2x3 fxCv2x5 fxCv2x12 fxCv2x21 fxCv2x27 fxCv2x111 fxCv3x2 fxCv3x3 fxCv3x5 fxCv3x12 fxCv3x21 fxCv3x27 fxCv3x111 fxCv5x2 fxCv5x3 fxCv5x5 fxCv5x12 fxCv5x21 fxCv5x27 fxCv5x111 fxCv12x2 fxCv12x3 fxCv12x5 fxCv12x12 fxCv12x21 fxCv12x27 fxCv12x111 fxCv21x2 fxCv21x3 fxCv21x5 fxCv21x12 fxCv21x21 fxCv21x27 fxCv21x111 fxCv27x2 fxCv27x3 fxCv27x5 fxCv27x12 fxCv27x21 fxCv27x27 fxCv27x111 fxCv111x2 fxCv111x3 fxCv111x5 fxCv111x12 fxCv111x21 fxCv111x27 fxCv111x111 fxEb4 fxNb4 fxLt9 fxLn22 fxNe22 fxNn22 fxOe22 fxOn22 fxXe22 fxXn22 fxLn34 fxNe34 fxNn34 fxOe34 fxOn34 fxXe34 fxXn34 fxLn37 fxNe37 fxNn37 fxOe37 fxOn37 fxXe37 fxXn37 fxLn48 fxNe48 fxNn48 fxOe48 fxOn48 fxXe48 fxXn48 fxLn49 fxNe49 fxNn49 fxOe49 fxOn49 fxXe49 fxXn49 fxLn57 fxNe57 fxNn57 fxOe57 fxOn57 fxXe57 fxXn57 fxLn69 fxNe69 fxNn69 fxOe69 fxOn69 fxXe69 fxXn69 fxLn92 fxNe92 fxNn92 fxOe92 fxOn92 fxXe92 fxXn92 fxFn3 fxFm3 fxFb3 fxFi3 fxFj3 fxFn4 fxFm4 fxFb4 fxFi4 fxFj4 fxFn5 fxFm5 fxFb5 fxFi5 fxFj5 fxFn6 fxFm6 fxFb6 fxFi6 fxFj6 fxFn7 fxFm7 fxFb7 fxFi7 fxFj7 fxFn8 fxFm8 fxFb8 fxFi8 fxFj8 fxFn9 fxFm9 fxFb9 fxFi9 fxFj9 fxFn10 fxFm10 fxFb10 fxFi10 fxFj10 fxFn11 fxFm11 fxFb11 fxFi11 fxFj11 fxFn12 fxFm12 fxFb12 fxFi12 fxFj12 fxFn13 fxFm13 fxFb13 fxFi13 fxFj13 fxFn14 fxFm14 fxFb14 fxFi14 fxFj14 fxFn15 fxFm15 fxFb15 fxFi15 fxFj15 fxFn16 fxFm16 fxFb16 fxFi16 fxFj16 fxFn17 fxFm17 fxFb17 fxFi17 fxFj17 fxFn18 fxFm18 fxFb18 fxFi18 fxFj18 fxFn19 fxFm19 fxFb19 fxFi19 fxFj19 fxFn20 fxFm20 fxFb20 fxFi20 fxFj20 fxFn21 fxFm21 fxFb21 fxFi21 fxFj21 fxFn22 fxFm22 fxFb22 fxFi22 fxFj22 fxFn23 fxFm23 fxFb23 fxFi23 fxFj23 fxFn24 fxFm24 fxFb24 fxFi24 fxFj24 fxFn25 fxFm25 fxFb25 fxFi25 fxFj25 fxFn26 fxFm26 fxFb26 fxFi26 fxFj26 fxFn27 fxFm27 fxFb27 fxFi27 fxFj27 fxFn28 fxFm28 fxFb28 fxFi28 fxFj28 fxFn29 fxFm29 fxFb29 fxFi29 fxFj29 fxFn30 fxFm30 fxFb30 fxFi30 fxFj30 fxFn31 fxFm31 fxFb31 fxFi31 fxFj31 fxFn32 fxFm32 fxFb32 fxFi32 fxFj32 fxFn33 fxFm33 fxFb33 fxFi33 fxFj33 fxFn34 fxFm34 fxFb34 fxFi34 fxFj34 fxFn35 fxFm35 fxFb35 fxFi35 fxFj35 fxFn36 fxFm36 fxFb36 fxFi36 fxFj36 fxFn37 fxFm37 fxFb37 fxFi37 fxFj37 fxFn38 fxFm38 fxFb38 fxFi38 fxFj38 fxFn39 fxFm39 fxFb39 fxFi39 fxFj39 fxFn40 fxFm40 fxFb40 fxFi40 fxFj40 fxFn41 fxFm41 fxFb41 fxFi41 fxFj41 fxFn42 fxFm42 fxFb42 fxFi42 fxFj42 fxFn43 fxFm43 fxFb43 fxFi43 fxFj43 fxFn44 fxFm44 fxFb44 fxFi44 fxFj44 fxFn45 fxFm45 fxFb45 fxFi45 fxFj45 fxFn46 fxFm46 fxFb46 fxFi46 fxFj46 fxFn47 fxFm47 fxFb47 fxFi47 fxFj47 fxFn48 fxFm48 fxFb48 fxFi48 fxFj48 fxFn49 fxFm49 fxFb49 fxFi49 fxFj49 fxFn50 fxFm50 fxFb50 fxFi50 fxFj50 fxFn51 fxFm51 fxFb51 fxFi51 fxFj51 fxFn52 fxFm52 fxFb52 fxFi52 fxFj52 fxFn53 fxFm53 fxFb53 fxFi53 fxFj53 fxFn54 fxFm54 fxFb54 fxFi54 fxFj54 fxFn55 fxFm55 fxFb55 fxFi55 fxFj55 fxFn56 fxFm56 fxFn57 fxFm57 fxFb57 fxFi57 fxFj57 fxFn58 fxFm58 fxFb58 fxFi58 fxFj58 fxFn59 fxFm59 fxFn60 fxFm60 fxFb60 fxFi60 fxFj60 fxFn61 fxFm61 fxFb61 fxFi61 fxFj61 fxFn62 fxFm62 fxFb62 fxFi62 fxFj62 fxFn63 fxFm63 fxFb63 fxFi63 fxFj63 fxFn64 fxFm64 fxFb64 fxFi64 fxFj64 fxFn65 fxFm65 fxFb65 fxFi65 fxFj65 fxFn66 fxFm66 fxFb66 fxFi66 fxFj66
attribute [local simp] Place.eta Place.cold Place.mapM Place.mapMc Place.view Place.viewc Place.hotR Place.ren Place.renc Place.low Place.tau Place.tauc Place.bare Place.flat Place.flat1 Place.mapMt Place.mapMd Place.coldt Place.coldd Place.hotRt Place.hotRd
attribute [local simp] Box.eta Box.dec_row Box.dec_hrow Box.cold Box.hcold Box.mapM Box.mapMc Box.hmapM Box.hmapMc Box.view Box.viewc Box.hview Box.hviewc Box.hotR Box.ren Box.renc Box.low Box.hlow
attribute [local simp] Slb.eta Slb.dec_row Slb.dec_hrow
attribute [local simp] sl_new sl_newH sl_tau sl_tauO
def hasB (p : Place) (b : Box) : Bool := b.frame == p.frame && decide (p.at_ ∈ b.used)
def jGv (s : Slb) (p : Place) : Nat := (s.boxes.findIdx? (hasB p)).getD s.boxes.length
def slGive (s : Slb) (p : Place) : Except Int (Slb × Bool) :=
  if slCheck s = 0 then
    match s.boxes.findIdx? (hasB p) with
    | some i =>
      let b := s.boxes[i]?.getD ⟨0, []⟩
      if 1 < b.used.length then .ok (⟨s.size, s.boxes.set i ⟨b.frame, b.used.eraseIdx ((idxOf p.at_ b.used).getD 0)⟩⟩, false)
      else .ok (⟨s.size, s.boxes.eraseIdx i⟩, true)
    | none => .error 4
  else .error (slCheck s)
def slGvE : Except Int (Slb × Bool) → AVal
  | .ok (s, b) => .tup [.agg s.hrow, .v (.bool b), .v (.int .i64 0)]
  | .error e => .v (.tuple #[.agg #[.int .i64 0, .slice none 0 0], .bool false, .int .i64 e])
theorem idxOf_get {x : Int} : ∀ {l : List Int} {k : Nat}, idxOf x l = some k → ∃ h : k < l.length, l[k] = x
  | [], k, h => by simp [idxOf] at h
  | y :: l, k, h => by
    simp only [idxOf] at h
    split at h
    · rename_i e; simp at h; subst h; exact ⟨by simp, e.symm⟩
    · simp only [Option.map_eq_some_iff] at h
      obtain ⟨j, hj, rfl⟩ := h
      obtain ⟨h1, h2⟩ := idxOf_get hj
      exact ⟨by simpa using h1, by simpa using h2⟩
theorem idxI_some {x : Int} {l : List Int} (h : x ∈ l) : ∃ k : Nat, idxI x l = k ∧ idxOf x l = some k := by
  have := (idxOf_iff x l).2 h
  obtain ⟨k, hk⟩ := Option.isSome_iff_exists.1 this
  exact ⟨k, by simp [idxI, hk], hk⟩
theorem idxI_no {x : Int} {l : List Int} (h : ¬ x ∈ l) : idxI x l < 0 := by
  apply Classical.byContradiction
  intro hn
  exact h ((idxI_iff x l).1 (by omega))
theorem er_map {α β : Type} {f : α → β} : ∀ {l : List α} {q : Nat}, (l.map f).eraseIdx q = (l.eraseIdx q).map f
  | [], _ => rfl
  | _ :: _, 0 => rfl
  | a :: l, q + 1 => by simp [er_map (l := l) (q := q)]
theorem set_er {α : Type} {l : List α} {i : Nat} {r : α} : (l.set i r).eraseIdx i = l.eraseIdx i := by
  apply List.ext_getElem?
  intro k
  simp only [List.getElem?_eraseIdx]
  split
  · rw [List.getElem?_set_ne (by omega)]
  · rw [List.getElem?_set_ne (by omega)]
theorem slRows_ver {H : Heap} {d i c : Nat} {L : List Box} : List.map (List.map (view H (d + 1))) ((slRows i c L).eraseIdx i) = (L.eraseIdx i).map Box.hrow := by
  rw [← er_map (f := List.map (view H (d + 1))), ← er_map (f := Box.hrow), ← set_er (l := List.map (List.map (view H (d + 1))) (slRows i c L)) (r := []), slRows_vset, set_er]
theorem inDel : InlOk Try.prog 44 (deleteI 1) := by
  refine delete_of (z := [.v (.int .i64 0)]) Try.func44 rfl (by simp [Try.ntmps44]) ?_
  intro H id i rows h1 h2 h3 h4
  refine wpA_sound noOrc_ok fxMix _ _ _ _ (by kernel_rfl) ?_
  have h1' := obj_get h1
  have g1 := (List.getElem?_eq_some_iff.1 h1').2
  have c1 : (i : Int) + 1 ≤ rows.length := by omega
  have c2 : 0 ≤ (i : Int) + 1 := by omega
  have c3 : (i : Int) ≤ i + 1 := by omega
  have c4 : i ≤ rows.length := by omega
  have c5 : i + 1 ≤ rows.length := by omega
  have c6 : i + 1 + (rows.length - (i + 1)) ≤ rows.length := by omega
  have c7 : i + (rows.length - (i + 1)) ≤ rows.length := by omega
  have c8 : i + (rows.length - (i + 1)) = rows.length - 1 := by omega
  have c9 : rows.length - 1 ≤ rows.length := by omega
  have d1 : ¬ ((i : Int) = i + 1) := by omega
  have d2 : List.take (rows.length - (i + 1)) (List.drop (i + 1) rows) = List.drop (i + 1) rows := List.take_of_length_le (by simp)
  have d3 : rows.length - (rows.length - 1) = 1 := by omega
  have d4 : (rows.length - 1) + 1 = rows.length := by omega
  have d5 : ¬ rows.length = i := by omega
  have d6 : ¬ rows.length = 0 := by omega
  have d7 : rows.length ≤ 4294967296 := by omega
  have d8 : i + (rows.length - (i + 1)) ≤ 4294967296 := by omega
  have f1 : rows.length ≤ 4294967297 := by omega
  have f2 : rows.length ≤ i + (rows.length - (i + 1) + 1) := by omega
  have d9 : ∀ X : List Row, List.take (rows.length - 1) (List.take i rows ++ (List.drop (i + 1) rows ++ X)) = List.take i rows ++ List.drop (i + 1) rows := by
    intro X
    rw [← List.append_assoc, List.take_append_of_le_length (by simp; omega), List.take_of_length_le (by simp; omega)]
  have e1 : List.drop rows.length (List.take i rows ++ (List.drop (i + 1) rows ++ List.drop (rows.length - 1) rows)) = [] := List.drop_eq_nil_of_le (by simp; omega)
  have e2 : rows.length - 1 ≤ i + (rows.length - (i + 1) + 1) := by omega
  have e3 : min i rows.length = i := by omega
  have e4 : ((rows.length - 1 : Nat) : Int) ≤ rows.length := by omega
  simp [Try.ntmps44, Try.results44, noOrc, h1', h2, h3, g1, c1, c2, c3, c4, c5, c6, c7, c8, c9, d1, d2, d3, d4, d5, d6, d7, d8, d9, e1, e2, e3, e4, f1, f2]
theorem bxDel : InlOk Try.prog 45 (deleteI 2) := by
  refine delete_of (z := [.v (.int .i64 0), .v (.slice none 0 0)]) Try.func45 rfl (by simp [Try.ntmps45]) ?_
  intro H id i rows h1 h2 h3 h4
  refine wpA_sound noOrc_ok fxMix _ _ _ _ (by kernel_rfl) ?_
  have h1' := obj_get h1
  have g1 := (List.getElem?_eq_some_iff.1 h1').2
  have c1 : (i : Int) + 1 ≤ rows.length := by omega
  have c2 : 0 ≤ (i : Int) + 1 := by omega
  have c3 : (i : Int) ≤ i + 1 := by omega
  have c4 : i ≤ rows.length := by omega
  have c5 : i + 1 ≤ rows.length := by omega
  have c6 : i + 1 + (rows.length - (i + 1)) ≤ rows.length := by omega
  have c7 : i + (rows.length - (i + 1)) ≤ rows.length := by omega
  have c8 : i + (rows.length - (i + 1)) = rows.length - 1 := by omega
  have c9 : rows.length - 1 ≤ rows.length := by omega
  have d1 : ¬ ((i : Int) = i + 1) := by omega
  have d2 : List.take (rows.length - (i + 1)) (List.drop (i + 1) rows) = List.drop (i + 1) rows := List.take_of_length_le (by simp)
  have d3 : rows.length - (rows.length - 1) = 1 := by omega
  have d4 : (rows.length - 1) + 1 = rows.length := by omega
  have d5 : ¬ rows.length = i := by omega
  have d6 : ¬ rows.length = 0 := by omega
  have d7 : rows.length ≤ 4294967296 := by omega
  have d8 : i + (rows.length - (i + 1)) ≤ 4294967296 := by omega
  have f1 : rows.length ≤ 4294967297 := by omega
  have f2 : rows.length ≤ i + (rows.length - (i + 1) + 1) := by omega
  have d9 : ∀ X : List Row, List.take (rows.length - 1) (List.take i rows ++ (List.drop (i + 1) rows ++ X)) = List.take i rows ++ List.drop (i + 1) rows := by
    intro X
    rw [← List.append_assoc, List.take_append_of_le_length (by simp; omega), List.take_of_length_le (by simp; omega)]
  have e1 : List.drop rows.length (List.take i rows ++ (List.drop (i + 1) rows ++ List.drop (rows.length - 1) rows)) = [] := List.drop_eq_nil_of_le (by simp; omega)
  have e2 : rows.length - 1 ≤ i + (rows.length - (i + 1) + 1) := by omega
  have e3 : min i rows.length = i := by omega
  have e4 : ((rows.length - 1 : Nat) : Int) ≤ rows.length := by omega
  simp [Try.ntmps45, Try.results45, noOrc, h1', h2, h3, g1, c1, c2, c3, c4, c5, c6, c7, c8, c9, d1, d2, d3, d4, d5, d6, d7, d8, d9, e1, e2, e3, e4, f1, f2]
theorem slGive_pure : PureOk Try.prog 18 (argM (cAgg rSlb) fun s => argM (cAgg rPlace) fun p => finM (if okS s then some (slGvE (slGive s p)) else none)) := by
  refine pure2 Try.func18 rfl ?_
  rintro s p r hr
  by_cases hc : okS s
  case neg => rw [if_neg hc] at hr; cases hr
  rw [if_pos hc] at hr
  simp only [Option.some.injEq] at hr
  subst hr
  refine body_gen ((((((noOrc_ok.withP slCheck_pure).withP index_pure).withIF (cpy_inl (jGv s p)) frameN_loc).withIF inDel delete_loc).withIF bxDel delete_loc).withD (fun i => if i = 10 then [(1,8)] else [])) fxMix (by kernel_rfl) (by simp [Try.ntmps18]) ?_
  intro C cP cI cN cD cF cA
  have cp0 := orcP slCheck_pure (C := C) (by rw [cP]; rfl)
  have cp1 := orcP index_pure (C := C) (by rw [cP]; rfl)
  have cn0 := orcI (cpy_inl (jGv s p)) (C := C) (by rw [cN]; rfl)
  have cn1 := orcI inDel (C := C) (by rw [cN]; rfl)
  have cn2 := orcI bxDel (C := C) (by rw [cN]; rfl)
  replace cI := fun g => congrFun cI g
  simp only [Orc.withP, Orc.withI, Orc.withF, Orc.withD, Orc.withA, noOrc] at cI
  replace cD : C.dyn = fun i => if i = 10 then [(1,8)] else [] := cD
  replace cF := fun g => congrFun cF g
  simp only [Orc.withP, Orc.withI, Orc.withF, Orc.withD, Orc.withA, noOrc] at cF
  replace cA : C.alt = fun _ => [] := cA
  clear cP cN
  obtain ⟨z, L⟩ := s
  obtain ⟨pf, pa⟩ := p
  unfold slGive
  by_cases h0 : slCheck ⟨z, L⟩ = 0
  case neg => simp [Try.ntmps18, Try.results18, cSl, cp0, cp1, cn0, cn1, cn2, cI, cD, cF, cA, rSlb, slbDec, rBox, Slb.row, rPlace, placeDec, Place.row, h0, hc, slGvE]
  obtain ⟨z1, z2, hL, hK1, hK⟩ := sl_ok.1 h0
  simp only at z1 z2 hL hK1 hK
  obtain ⟨z, rfl⟩ := Int.eq_ofNat_of_zero_le (show 0 ≤ z by omega)
  rw [Int.toNat_natCast] at hK
  have hcp : ∀ b, b ∈ L → b.used ≠ [] ∧ b.used.length ≤ 64 := fun b hb => by
    obtain ⟨_, _, h3, h4⟩ := hK b hb
    have := okU_16 (z := z) (by omega) (by omega) h4
    exact ⟨h3, by omega⟩
  have hcp1 : (∀ b, b ∈ L → ¬ b.used = [] ∧ b.used.length ≤ 64) = True := eq_true hcp
  simp [Try.ntmps18, Try.results18, cSl, cp0, cp1, cn0, cn1, cn2, cI, cD, cF, cA, rSlb, slbDec, rBox, Slb.row, rPlace, placeDec, Place.row, h0, hc, hL, hcp1]
  by_cases h1 : L = []
  · subst h1
    have hj : jGv ⟨(z : Int), []⟩ ⟨pf, pa⟩ = 0 := rfl
    simp [Try.ntmps18, Try.results18, cSl, cp0, cp1, cn0, cn1, cn2, cI, cD, cF, cA, slV, slH, oA, hj]
    refine loop_rounds 1 ?_
    simp [Try.ntmps18, Try.results18, cSl, cp0, cp1, cn0, cn1, cn2, cI, cD, cF, cA, UnrK, slGvE]
    done
  have h1' : ¬ L.length = 0 := fun h => h1 (List.length_eq_zero_iff.1 h)
  simp [Try.ntmps18, Try.results18, cSl, cp0, cp1, cn0, cn1, cn2, cI, cD, cF, cA, slV, slH, oA, h1]
  cases hfi : L.findIdx? (hasB ⟨pf, pa⟩) with
  | some i =>
    have hj : jGv ⟨(z : Int), L⟩ ⟨pf, pa⟩ = i := by simp [jGv, hfi]
    rw [List.findIdx?_eq_some_iff_getElem] at hfi
    obtain ⟨hiL, hih, hin⟩ := hfi
    have hT : slTail i L.length L = [some (1, L[i].used.map (irow .i64))] := by unfold slTail; rw [if_pos hiL, List.getElem?_eq_getElem hiL]
    have hlow : ∀ n, 7 ≤ n → ((slRows i 6 L).all fun row => row.all (lowA n)) = true := fun n h => slRows_low (by omega)
    rw [hj, hT]
    simp [Try.ntmps18, Try.results18, cSl, cp0, cp1, cn0, cn1, cn2, cI, cD, cF, cA]
    refine loop_for L.length (fun k (_ : Unit) => ([(2, .ptr 0 2 0 0), (3, .ptr 1 2 0 0), (4, .ptr 2 2 0 0), (20, .osl 5 2 0 L.length L.length), (21, .v (.int .i64 L.length)), (22, .v (.int .i64 k))], [some (2, [[.v (.int .i64 z), .osl 5 2 0 L.length L.length]]), some (2, [[.v (.int .i64 pf), .v (.int .i64 pa)]]), some (2, [[.v (.int .i64 0), .v (.slice none 0 0)]]), none, none, some (2, slRows i 6 L), some (1, L[i].used.map (irow .i64))])) (fun k _ => k ≤ i) () (by omega) (by omega) ?_ ?_ ?_
    · simp [irow_low]
      simpa using hlow _ (by omega)
    · rintro k _ hk hki hw
      have hgr := slRows_get (j := i) (c := 6) hk
      have hrl : (slRows i 6 L).length = L.length := slRows_len
      have hu64 : L[k].used.length ≤ 4294967296 := by have := (hcp _ (List.getElem_mem hk)).2; omega
      rcases Nat.lt_or_eq_of_le hki with hlt | heq
      · rw [if_neg (by omega)] at hgr
        have hg2 : (slRows i 6 L)[k]'(by rw [hrl]; exact hk) = L[k].hrow := by
          rw [List.getElem?_eq_getElem (by rw [hrl]; exact hk)] at hgr
          simpa using hgr
        have hno := hin k hlt
        by_cases q1 : L[k].frame = pf
        · have q2 : ¬ pa ∈ L[k].used := by intro h; simp [hasB, q1, h] at hno
          have q3 := idxI_no q2
          simp [Try.ntmps18, Try.results18, cSl, cp0, cp1, cn0, cn1, cn2, cI, cD, cF, cA, hk, hw, hrl, hg2, Box.hrow, hu64, rI, irowDec, q1, q3, irow_low]
          first | done | (simpa using hlow _ (by omega)) | exact ⟨by omega, by simpa using hlow _ (by omega)⟩
        · simp [Try.ntmps18, Try.results18, cSl, cp0, cp1, cn0, cn1, cn2, cI, cD, cF, cA, hk, hw, hrl, hg2, Box.hrow, hu64, rI, irowDec, q1, irow_low]
          first | done | (simpa using hlow _ (by omega)) | exact ⟨by omega, by simpa using hlow _ (by omega)⟩
      · subst heq
        rw [if_pos rfl] at hgr
        have hg2 : (slRows k 6 L)[k]'(by rw [hrl]; exact hk) = ownB 6 L[k] := by
          rw [List.getElem?_eq_getElem (by rw [hrl]; exact hk)] at hgr
          simpa using hgr
        have hu16 := (hcp _ (List.getElem_mem hk)).2
        have hu0 := (hcp _ (List.getElem_mem hk)).1
        have hL1 : L.length ≤ 1048576 := by omega
        have hkk : IntKind.i64.wrap ((k : Int) + 1) = (k : Int) + 1 := hw
        generalize hb : L[k] = b at *
        obtain ⟨bf, u⟩ := b
        simp only [hasB, Bool.and_eq_true, beq_iff_eq, decide_eq_true_eq] at hih hu16 hu0 hu64
        obtain ⟨rfl, hpa⟩ := hih
        obtain ⟨m, hm1, hm2⟩ := idxI_some hpa
        obtain ⟨hm3, hm4⟩ := idxOf_get hm2
        have wm : IntKind.i64.wrap ((m : Int) + 1) = (m : Int) + 1 := w64 (by omega) (by omega)
        have hu1 : u.length ≤ 1048576 := by omega
        have ht : ∀ r : Row, List.take L.length ((L.map Box.hrow).set k r) = (L.map Box.hrow).set k r := fun r => List.take_of_length_le (by simp)
        have c3 : ∀ r : Row, hotC r = true → hotR ((L.map Box.hrow).set k r) = true := fun r hr => hotR_set (Box.hotR L) hr
        have d1 : (u.eraseIdx m).length = u.length - 1 := by rw [List.length_eraseIdx, if_pos hm3]
        have d2 : (L.eraseIdx k).length = L.length - 1 := by rw [List.length_eraseIdx, if_pos hk]
        have hm0 : ¬ (m : Int) < 0 := by omega
        have hm5 : m ≤ 9223372036854775807 := by omega
        have d3 : ((slRows k 6 L).eraseIdx k).length = L.length - 1 := by rw [List.length_eraseIdx, slRows_len, if_pos hk]
        have d4 : L.length ≤ L.length - 1 + 1 := by omega
        have d5 : u.length ≤ u.length - 1 + 1 := by omega
        have d6 : List.take (u.length - 1) ((u.eraseIdx m).map (irow .i64)) = (u.eraseIdx m).map (irow .i64) := List.take_of_length_le (by simp [d1])
        have d7 : List.take (L.length - 1) ((L.eraseIdx k).map Box.hrow) = (L.eraseIdx k).map Box.hrow := List.take_of_length_le (by simp [d2])
        by_cases hone : 1 < u.length
        · have hone' : (1 : Int) < u.length := by omega
          simp [Try.ntmps18, Try.results18, cSl, cp0, cp1, cn0, cn1, cn2, cI, cD, cF, cA, hk, hw, hrl, hg2, ownB, hu64, hu1, rI, irowDec, hm1, hm3, wm, deleteI, hone, hone']
          simp [slRows_vset, ht, hb, hm0, hm2, slGvE, Slb.hrow, Box.hrow, c3, er_map, d1, d5, d6, hone]
          done
        · have hone' : ¬ (1 : Int) < u.length := by omega
          simp [Try.ntmps18, Try.results18, cSl, cp0, cp1, cn0, cn1, cn2, cI, cD, cF, cA, hk, hw, hrl, hg2, ownB, hu64, hu1, hL1, rI, irowDec, hm1, hm3, wm, deleteI, hone, hone']
          simp [set_er, slRows_ver, ht, hb, hm0, hm2, slGvE, Slb.hrow, Box.hrow, c3, d1, d3, d4, d7, hone]
          done
    · rintro _ h; omega
  | none =>
    have hj : jGv ⟨(z : Int), L⟩ ⟨pf, pa⟩ = L.length := by simp [jGv, hfi]
    rw [List.findIdx?_eq_none_iff] at hfi
    have hT : slTail L.length L.length L = [] := by unfold slTail; rw [if_neg (Nat.lt_irrefl _)]
    rw [hj, hT]
    simp [Try.ntmps18, Try.results18, cSl, cp0, cp1, cn0, cn1, cn2, cI, cD, cF, cA, slRows_none]
    refine loop_for L.length (fun k (_ : Unit) => ([(2, .ptr 0 2 0 0), (3, .ptr 1 2 0 0), (4, .ptr 2 2 0 0), (20, .osl 5 2 0 L.length L.length), (21, .v (.int .i64 L.length)), (22, .v (.int .i64 k))], [some (2, [[.v (.int .i64 z), .osl 5 2 0 L.length L.length]]), some (2, [[.v (.int .i64 pf), .v (.int .i64 pa)]]), some (2, [[.v (.int .i64 0), .v (.slice none 0 0)]]), none, none, some (2, L.map Box.hrow)])) (fun k _ => True) () (by omega) trivial ?_ ?_ ?_
    · simp
    · rintro k _ hk _ hw
      have hu64 : L[k].used.length ≤ 4294967296 := by have := (hcp _ (List.getElem_mem hk)).2; omega
      have hno := hfi _ (List.getElem_mem hk)
      by_cases q1 : L[k].frame = pf
      · have q2 : ¬ pa ∈ L[k].used := by intro h; simp [hasB, q1, h] at hno
        have q3 := idxI_no q2
        simp [Try.ntmps18, Try.results18, cSl, cp0, cp1, cn0, cn1, cn2, cI, cD, cF, cA, hk, hw,  Box.hrow, hu64, rI, irowDec, q1, q3, irow_low]
        first | done | (simpa using hlow _ (by omega)) | exact ⟨by omega, by simpa using hlow _ (by omega)⟩
      · simp [Try.ntmps18, Try.results18, cSl, cp0, cp1, cn0, cn1, cn2, cI, cD, cF, cA, hk, hw,  Box.hrow, hu64, rI, irowDec, q1, irow_low]
        first | done | (simpa using hlow _ (by omega)) | exact ⟨by omega, by simpa using hlow _ (by omega)⟩
    · rintro _ _
      simp [Try.ntmps18, Try.results18, cSl, cp0, cp1, cn0, cn1, cn2, cI, cD, cF, cA, slGvE]
end Go.Proofs.Ytfiindblaopaiaa
