/- Package table: at, huge, Check, page, Walk. -/
import Derived.Test.YtdhpgdfjogklaaaTbA
import Derived.Test.YtdhpgdfjogklaaaAiZg
namespace Go.Proofs.Ytdhpgdfjogklaaa
open Go.AI
set_option maxHeartbeats 2000000
set_option maxRecDepth 100000
set_option linter.unusedSimpArgs false
set_option linter.unusedVariables false
attribute [local simp] wpA wpX RunA RunD runF foot footP footB idsA bare apart runL step1 gsel_f gsel_t gsel_s res_same res_and1 res_and2 res_and3 res_and4 res_and5 res_and6 res_false res_true res_v res_ptr res_fptr res_osl res_xsl soft aAppendZ aCap ovlI ovlJ res_fsl res_esl res_agg res_tup res_fn res_junk res_anyb aPick hk imp_left iteV dstOk guardOk astep astepE AI.ev AI.look AI.put envOf aBox cellsOf allOne allOneA oneA Value.oneCell' Value.cells newObj' aFieldAddr aLoad obj readAt thenA blockA condA retA resA tupA view hot hotC hotR depthV cAgg cInt cBool mkAgg allV aAlloc aBuild fillA writeAt aStore isAggA aField idx aIndexAddr aIndex bnd aSlice aExtract aLen aBuiltin aCall isStatic eqAgg eqTy eqC ev_add ev_sub ev_mul ev_quo ev_rem ev_and ev_or ev_xor ev_andNot ev_shl ev_shr ev_eql ev_neq ev_lss ev_leq ev_gtr ev_geq ev_agg w64 wu32 wu8 ev_not ev_neg Cod.plain RCod.plain argM finM cold coldC coldR goInt intDec boolDec aggDec Weaker heapW lowA lowC Again slDec undef aBuildSlice setRows aAppend rowsOf aMakeSlice aClear aCopy softer_self softer_nil valsOf ev_min2 ev_max2 hotR_set hotR_append take_map_set irow_cold irow_mapM irow_mapMc irow_view irow_viewc irow_hotR irow_ren irow_renc irow_low WeakT heapT thOf ren renC AgainT NextF NextT fnDec cFn rNil selfLt natLt0 natLt1 getLastMap frame0 frame1 own0 own1 argG finG tau tauI tauO tauC bareA bareC bareH irow_tau irow_tauc irow_bare irow_flat irow_bareR ownA_nil ownT_nil ownA_c ownT_c ownA_s ownT_s takeMapLen footC plainA noId noIdC cloneF frame0F frame1F insertF replaceI replaceF cellDec rCell fpDec cFp rTwo deleteF allV_oA oneA_oA res_oA RunR RunE runFT footAt hotR_cat tmodN fxSz2 fxBy2 fxAg2 fxZe2 fxSl2 fxAr2 fxPl2 fxSz3 fxBy3 fxAg3 fxZe3 fxSl3 fxAr3 fxPl3 fxSz4 fxBy4 fxAg4 fxZe4 fxSl4 fxAr4 fxPl4 fxSz5 fxBy5 fxAg5 fxZe5 fxSl5 fxAr5 fxPl5 fxSz9 fxBy9 fxAg9 fxZe9 fxSl9 fxAr9 fxPl9 fxSz12 fxBy12 fxAg12 fxZe12 fxSl12 fxAr12 fxPl12 fxSz13 fxBy13 fxAg13 fxZe13 fxSl13 fxAr13 fxFi13x0 fxFi13x1 fxPl13 fxSz21 fxBy21 fxAg21 fxZe21 fxSl21 fxAr21 fxPl21 fxSz22 fxBy22 fxAg22 fxZe22 fxSl22 fxAr22 fxPl22 fxSz23 fxBy23 fxAg23 fxZe23 fxSl23 fxAr23 fxFi23x0 fxFi23x1 fxPl23 fxSz24 fxBy24 fxAg24 fxZe24 fxSl24 fxAr24 fxFi24x0 fxFi24x1 fxPl24 fxSz25 fxBy25 fxAg25 fxZe25 fxSl25 fxAr25 fxPl25 fxSz26 fxBy26 fxAg26 fxZe26 fxSl26 fxAr26 fxPl26 fxSz27 fxBy27 fxAg27 fxZe27 fxSl27 fxAr27 fxFi27x0 fxFi27x1 fxFi27x2 fxFi27x3 fxFi27x4 fxFi27x5 fxFi27x6 fxPl27 fxSz28 fxBy28 fxAg28 fxZe28 fxSl28 fxAr28 fxFi28x0 fxFi28x1 fxFi28x2 fxFi28x3 fxFi28x4 fxFi28x5 fxFi28x6 fxPl28 fxSz29 fxBy29 fxAg29 fxZe29 fxSl29 fxAr29 fxPl29 fxSz44 fxBy44 fxAg44 fxZe44 fxSl44 fxAr44 fxPl44 fxSz45 fxBy45 fxAg45 fxZe45 fxSl45 fxAr45 fxPl45 fxSz52 fxBy52 fxAg52 fxZe52 fxSl52 fxAr52 fxPl52 fxSz54 fxBy54 fxAg54 fxZe54 fxSl54 fxAr54 fxFi54x0 fxFi54x1 fxPl54 fxSz55 fxBy55 fxAg55 fxZe55 fxSl55 fxAr55 fxFi55x0 fxFi55x1 fxPl55 fxSz56 fxBy56 fxAg56 fxZe56 fxSl56 fxAr56 fxPl56 fxSz60 fxBy60 fxAg60 fxZe60 fxSl60 fxAr60 fxPl60 fxSz61 fxBy61 fxAg61 fxZe61 fxSl61 fxAr61 fxPl61 fxSz62 fxBy62 fxAg62 fxZe62 fxSl62 fxAr62 fxFi62x0 fxFi62x1 fxPl62 fxSz63 fxBy63 fxAg63 fxZe63 fxSl63 fxAr63 fxFi63x0 fxFi63x1 fxPl63 fxSz76 fxBy76 fxAg76 fxZe76 fxSl76 fxAr76 fxPl76 fxSz83 fxBy83 fxAg83 fxZe83 fxSl83 fxAr83 fxFi83x0 fxFi83x1 fxFi83x2 fxPl83 fxSz84 fxBy84 fxAg84 fxZe84 fxSl84 fxAr84 fxFi84x0 fxFi84x1 fxFi84x2 fxPl84 fxSz99 fxBy99 fxAg99 fxZe99 fxSl99 fxAr99 fxPl99 fxSz106 fxBy106 fxAg106 fxZe106 fxSl106 fxAr106 fxPl106 fxSz107 fxBy107 fxAg107 fxZe107 fxSl107 fxAr107 fxFi107x0 fxPl107 fxSz113 fxBy113 fxAg113 fxZe113 fxSl113 fxAr113 fxPl113 fxSz118 fxBy118 fxAg118 fxZe118 fxSl118 fxAr118 fxPl118 fxEq28 fxEq55 fxEq56 fxEq84 fxCv2x2 fxCv2x3 fxCv2x5 fxCv2x12 fxCv2x21 fxCv2x29 fxCv2x45 fxCv3x2 fxCv3x3 fxCv3x5 fxCv3x12 fxCv3x21 fxCv3x29 fxCv3x45 fxCv5x2 fxCv5x3 fxCv5x5 fxCv5x12 fxCv5x21 fxCv5x29 fxCv5x45 fxCv12x2 fxCv12x3 fxCv12x5 fxCv12x12 fxCv12x21 fxCv12x29 fxCv12x45 fxCv21x2 fxCv21x3 fxCv21x5 fxCv21x12 fxCv21x21 fxCv21x29 fxCv21x45 fxCv29x2 fxCv29x3 fxCv29x5 fxCv29x12 fxCv29x21 fxCv29x29 fxCv29x45 fxCv45x2 fxCv45x3 fxCv45x5 fxCv45x12 fxCv45x21 fxCv45x29 fxCv45x45 fxEb4 fxNb4 fxLt9 fxLn22 fxNe22 fxNn22 fxOe22 fxOn22 fxXe22 fxXn22 fxLn44 fxNe44 fxNn44 fxOe44 fxOn44 fxXe44 fxXn44 fxLn52 fxNe52 fxNn52 fxOe52 fxOn52 fxXe52 fxXn52 fxLn60 fxNe60 fxNn60 fxOe60 fxOn60 fxXe60 fxXn60 fxLn61 fxNe61 fxNn61 fxOe61 fxOn61 fxXe61 fxXn61 fxLn76 fxNe76 fxNn76 fxOe76 fxOn76 fxXe76 fxXn76 fxFn3 fxFm3 fxFb3 fxFi3 fxFj3 fxFn4 fxFm4 fxFb4 fxFi4 fxFj4 fxFn5 fxFm5 fxFb5 fxFi5 fxFj5 fxFn6 fxFm6 fxFb6 fxFi6 fxFj6 fxFn7 fxFm7 fxFb7 fxFi7 fxFj7 fxFn8 fxFm8 fxFb8 fxFi8 fxFj8 fxFn9 fxFm9 fxFb9 fxFi9 fxFj9 fxFn10 fxFm10 fxFb10 fxFi10 fxFj10 fxFn11 fxFm11 fxFb11 fxFi11 fxFj11 fxFn12 fxFm12 fxFb12 fxFi12 fxFj12 fxFn13 fxFm13 fxFb13 fxFi13 fxFj13 fxFn14 fxFm14 fxFb14 fxFi14 fxFj14 fxFn15 fxFm15 fxFb15 fxFi15 fxFj15 fxFn16 fxFm16 fxFb16 fxFi16 fxFj16 fxFn17 fxFm17 fxFb17 fxFi17 fxFj17 fxFn18 fxFm18 fxFb18 fxFi18 fxFj18 fxFn19 fxFm19 fxFb19 fxFi19 fxFj19 fxFn20 fxFm20 fxFb20 fxFi20 fxFj20 fxFn21 fxFm21 fxFb21 fxFi21 fxFj21 fxFn22 fxFm22 fxFb22 fxFi22 fxFj22 fxFn23 fxFm23 fxFb23 fxFi23 fxFj23 fxFn24 fxFm24 fxFb24 fxFi24 fxFj24 fxFn25 fxFm25 fxFb25 fxFi25 fxFj25 fxFn26 fxFm26 fxFb26 fxFi26 fxFj26 fxFn27 fxFm27 fxFb27 fxFi27 fxFj27 fxFn28 fxFm28 fxFb28 fxFi28 fxFj28 fxFn29 fxFm29 fxFb29 fxFi29 fxFj29 fxFn30 fxFm30 fxFb30 fxFi30 fxFj30 fxFn31 fxFm31 fxFb31 fxFi31 fxFj31 fxFn32 fxFm32 fxFb32 fxFi32 fxFj32 fxFn33 fxFm33 fxFb33 fxFi33 fxFj33 fxFn34 fxFm34 fxFb34 fxFi34 fxFj34 fxFn35 fxFm35 fxFb35 fxFi35 fxFj35 fxFn36 fxFm36 fxFb36 fxFi36 fxFj36 fxFn37 fxFm37 fxFb37 fxFi37 fxFj37 fxFn38 fxFm38 fxFb38 fxFi38 fxFj38 fxFn39 fxFm39 fxFb39 fxFi39 fxFj39 fxFn40 fxFm40 fxFb40 fxFi40 fxFj40 fxFn41 fxFm41 fxFb41 fxFi41 fxFj41 fxFn42 fxFm42 fxFb42 fxFi42 fxFj42 fxFn43 fxFm43 fxFb43 fxFi43 fxFj43 fxFn44 fxFm44 fxFb44 fxFi44 fxFj44 fxFn45 fxFm45 fxFb45 fxFi45 fxFj45 fxFn46 fxFm46 fxFb46 fxFi46 fxFj46 fxFn47 fxFm47 fxFb47 fxFi47 fxFj47 fxFn48 fxFm48 fxFb48 fxFi48 fxFj48 fxFn49 fxFm49 fxFb49 fxFi49 fxFj49 fxFn50 fxFm50 fxFb50 fxFi50 fxFj50 fxFn51 fxFm51 fxFb51 fxFi51 fxFj51 fxFn52 fxFm52 fxFb52 fxFi52 fxFj52 fxFn53 fxFm53 fxFb53 fxFi53 fxFj53 fxFn54 fxFm54 fxFb54 fxFi54 fxFj54 fxFn55 fxFm55 fxFb55 fxFi55 fxFj55 fxFn56 fxFm56 fxFb56 fxFi56 fxFj56 fxFn57 fxFm57 fxFb57 fxFi57 fxFj57 fxFn58 fxFm58 fxFb58 fxFi58 fxFj58 fxFn59 fxFm59 fxFb59 fxFi59 fxFj59 fxFn60 fxFm60 fxFb60 fxFi60 fxFj60
attribute [local simp] Entry.eta Entry.cold Entry.mapM Entry.mapMc Entry.view Entry.viewc Entry.hotR Entry.ren Entry.renc Entry.low Entry.tau Entry.tauc Entry.bare Entry.flat Entry.flat1 Entry.mapMt Entry.mapMd Entry.coldt Entry.coldd Entry.hotRt Entry.hotRd
attribute [local simp] Nd.eta Nd.dec_row Nd.dec_hrow Nd.cold Nd.hcold Nd.mapM Nd.mapMc Nd.hmapM Nd.hmapMc Nd.view Nd.viewc Nd.hview Nd.hviewc Nd.hotR Nd.ren Nd.renc Nd.low Nd.hlow
def hugeE (e : Entry) : Bool := e.here && (Int.tmod e.at_ 8 == 0)
theorem huge_pure : PureOk Try.prog 34 (argM (cAgg rEnt) fun e => finM (some (.v (.bool (hugeE e))))) := by
  refine pure1 Try.func34 rfl ?_
  rintro e r hr
  simp only [Option.some.injEq] at hr
  subst hr
  refine body_gen noOrc_ok fxMix (by kernel_rfl) (by simp [Try.ntmps34]) ?_
  intro C cP cI cN cD cF cA
  replace cI : C.inl = fun _ => false := cI
  replace cD : C.dyn = fun _ => [] := cD
  clear cP cN cF cA
  simp [Try.ntmps34, Try.results34, cSl, cI, cD, rEnt, Entry.row, entDec, hugeE]
def shape (n : Nd) : Bool := if n.huge = true then decide (n.ents.length = 1) else decide (n.ents.length = 0) || decide (n.ents.length = 8)
def addE (e : Entry) (k : Int) : Entry := { e with at_ := IntKind.i64.wrap (e.at_ + k) }
def atN (n : Nd) (k : Nat) : Entry := if n.huge = true then addE (n.ents[0]?.getD noEnt) k else if n.ents.length = 0 then noEnt else n.ents[k]?.getD noEnt
theorem at_pure : PureOk Try.prog 33 (argM (cAgg rNd) fun n => argM (cInt .i64) fun k => finM (if shape n = true ∧ 0 ≤ k ∧ k < 8 then some (.v (atN n k.toNat).val) else none)) := by
  refine pure2 Try.func33 rfl ?_
  rintro n k r hr
  by_cases hc : shape n = true ∧ 0 ≤ k ∧ k < 8
  case neg => rw [if_neg hc] at hr; cases hr
  rw [if_pos hc] at hr
  simp only [Option.some.injEq] at hr
  subst hr
  refine body_gen noOrc_ok fxMix (by kernel_rfl) (by simp [Try.ntmps33]) ?_
  intro C cP cI cN cD cF cA
  replace cI : C.inl = fun _ => false := cI
  replace cD : C.dyn = fun _ => [] := cD
  clear cP cN cF cA
  obtain ⟨h, L⟩ := n
  obtain ⟨hs, hk0, hk8⟩ := hc
  obtain ⟨k, rfl⟩ := Int.eq_ofNat_of_zero_le hk0
  cases h
  · simp [shape] at hs
    rcases hs with hs | hs
    · subst hs
      simp [Try.ntmps33, Try.results33, cSl, cI, cD, rNd, ndDec, rEnt, Nd.row, atN, noEnt, Entry.val]
    · have h0 : ¬ L.length = 0 := by omega
      have hk : k < L.length := by omega
      have hk' : (k : Int) < 8 := by omega
      have hg : L[k]? = some L[k] := List.getElem?_eq_getElem hk
      simp [Try.ntmps33, Try.results33, cSl, cI, cD, hg, rNd, ndDec, rEnt, Nd.row, atN, h0, hk, hk', hs, Entry.row, Entry.val]
      done
  · simp [shape] at hs
    obtain ⟨e, rfl⟩ := List.length_eq_one_iff.1 hs
    simp [Try.ntmps33, Try.results33, cSl, cI, cD, rNd, ndDec, rEnt, Nd.row, atN, addE, Entry.row, Entry.val]
/-- Check, node by node -/
def firstBad : List Entry → Int
  | [] => 0
  | e :: r => if e.chk = 0 then firstBad r else e.chk
def nodeChk (n : Nd) : Int :=
  if (n.huge = true ∧ (n.ents.length ≠ 1 ∨ hugeE (n.ents[0]?.getD noEnt) = false)) ∨ (n.huge = false ∧ n.ents.length ≠ 0 ∧ n.ents.length ≠ 8) then 3
  else if firstBad n.ents = 0 then (if n.ents.all Entry.none = true ∧ 0 < n.ents.length then 3 else 0) else firstBad n.ents
def nodesChk : List Nd → Int
  | [] => 0
  | n :: r => if nodeChk n = 0 then nodesChk r else nodeChk n
def tbCheck (t : Tb) : Int := nodesChk t.l
theorem tb_ne (t : Tb) : ∃ n r, t.l = n :: r := by
  obtain ⟨l, h⟩ := t
  cases l with
  | nil => simp at h
  | cons n r => exact ⟨n, r, rfl⟩
theorem tb_allV (t : Tb) : allV t.row = none := by
  obtain ⟨n, r, h⟩ := tb_ne t
  rw [Tb.row, h]; exact fl_allV n r
theorem tb_hallV (t : Tb) : allV t.hrow = none := by
  obtain ⟨n, r, h⟩ := tb_ne t
  rw [Tb.hrow, h]; exact fl_hallV n r
theorem tb_len (t : Tb) : t.row.length = 16 := rTb.len t
theorem tb_hlen (t : Tb) : t.hrow.length = 16 := by rw [Tb.hrow, fl_len (nd_hrows _), List.length_map, t.h]
theorem tb_all (t : Tb) : List.take 16 t.row = t.row := List.take_of_length_le (by rw [tb_len]; omega)
theorem tb_hall (t : Tb) : List.take 16 t.hrow = t.hrow := List.take_of_length_le (by rw [tb_hlen]; omega)
theorem tb_one (t : Tb) : allOneA t.row = true := by
  have key : ∀ l : List Nd, allOneA (fl (l.map Nd.row)) = true := fun l => by
    induction l with
    | nil => rfl
    | cons n l ih => simp [fl, Nd.row, allOneA, oneA, Value.oneCell'] ; simpa [Nd.row] using ih
  exact key t.l
theorem tb_hone (t : Tb) : allOneA t.hrow = true := by
  have key : ∀ l : List Nd, allOneA (fl (l.map Nd.hrow)) = true := fun l => by
    induction l with
    | nil => rfl
    | cons n l ih => simp [fl, Nd.hrow, allOneA, oneA, Value.oneCell'] ; simpa [Nd.hrow] using ih
  exact key t.l
theorem tb_low (n : Nat) (t : Tb) : t.row.all (lowA n) = true := by
  have key : ∀ l : List Nd, (fl (l.map Nd.row)).all (lowA n) = true := fun l => by
    induction l with
    | nil => rfl
    | cons n l ih => simp [fl, Nd.row, lowA] ; simpa [Nd.row] using ih
  exact key t.l
theorem tb_hlow (n : Nat) (t : Tb) : t.hrow.all (lowA n) = true := by
  have key : ∀ l : List Nd, (fl (l.map Nd.hrow)).all (lowA n) = true := fun l => by
    induction l with
    | nil => rfl
    | cons n l ih => simp [fl, Nd.hrow, lowA] ; simpa [Nd.hrow] using ih
  exact key t.l
theorem tb_lowC (n : Nat) (t : Tb) : lowC n t.row = true := by rw [lowC_all]; exact tb_low n t
theorem tb_hlowC (n : Nat) (t : Tb) : lowC n t.hrow = true := by rw [lowC_all]; exact tb_hlow n t
theorem tb_view {H : Heap} {d : Nat} (t : Tb) : t.row.map (view H d) = t.row := fl_view t.l
theorem tb_hview {H : Heap} {d : Nat} (t : Tb) : t.hrow.map (view H d) = t.hrow := fl_hview t.l
theorem tb_cold (t : Tb) : coldC t.row = t.row := fl_cold t.l
theorem tb_hcold (t : Tb) : coldC t.hrow = t.row := fl_hcold t.l
theorem tb_hot (t : Tb) : hotC t.hrow = true := fl_hot t.l
theorem writeAt_all {row cs : Row} (h : cs.length = row.length) : writeAt row 0 cs = cs := by
  apply List.ext_getElem?
  intro i
  rw [writeAt_get _ _ _ (by omega)]
  by_cases hi : i < cs.length
  · rw [if_pos (by omega)]; rfl
  · rw [if_neg (by omega), List.getElem?_eq_none (by omega), List.getElem?_eq_none (by omega)]
theorem tb_write (t : Tb) (row : Row) (h : row.length = 16) : writeAt row 0 t.row = t.row := writeAt_all (by rw [tb_len, h])
theorem tb_hwrite (t : Tb) (row : Row) (h : row.length = 16) : writeAt row 0 t.hrow = t.hrow := writeAt_all (by rw [tb_hlen, h])
theorem tb_take (t : Tb) {k : Nat} (hk : k < 8) : (t.row.drop (k * 2)).take 2 = (t.l[k]'(by rw [t.h]; exact hk)).row := by
  have := fl_take (nd_rows t.l) (k := k) (by rw [List.length_map, t.h]; exact hk)
  simpa [Tb.row] using this
theorem tb_get1 (t : Tb) {k : Nat} (hk : k < 8) : t.row[k * 2 + 1]? = some (.fsl false 7 ((t.l[k]'(by rw [t.h]; exact hk)).ents.map Entry.row)) := by
  have := fl_get (nd_rows t.l) (k := k) (j := 1) (by rw [List.length_map, t.h]; exact hk) (by omega)
  simpa [Tb.row, Nd.row] using this
theorem tb_get0 (t : Tb) {k : Nat} (hk : k < 8) : t.row[k * 2]? = some (.v (.bool (t.l[k]'(by rw [t.h]; exact hk)).huge)) := by
  have := fl_get (nd_rows t.l) (k := k) (j := 0) (by rw [List.length_map, t.h]; exact hk) (by omega)
  simpa [Tb.row, Nd.row] using this
attribute [local simp] tb_write tb_hwrite tb_allV tb_hallV tb_len tb_hlen tb_all tb_hall tb_one tb_hone tb_low tb_hlow tb_lowC tb_hlowC tb_view tb_hview tb_cold tb_hcold tb_hot Tb.dec_row Tb.dec_hrow
theorem hugeNo {n : Nd} (h : nodeChk n = 0) : shape n = true := by
  unfold nodeChk at h
  split at h
  · simp at h
  · rename_i h1
    unfold shape
    cases hn : n.huge
    · by_cases q : n.ents.length = 0 <;> by_cases q8 : n.ents.length = 8 <;> simp_all
    · simp [hn] at h1 ⊢; exact h1.1
theorem all_take {L : List Entry} {j : Nat} (hj : j < L.length) : (L.take (j + 1)).all Entry.none = ((L.take j).all Entry.none && L[j].none) := by
  rw [List.take_succ_eq_append_getElem hj, List.all_append]; simp
theorem tbCheck_pure : PureOk Try.prog 14 (argM (cAgg rTb) fun t => finM (some (.v (.int .i64 (tbCheck t))))) := by
  refine pure1 Try.func14 rfl ?_
  rintro t r hr
  simp only [Option.some.injEq] at hr
  subst hr
  refine body_gen (((noOrc_ok.withP huge_pure).withP check_pure).withP none_pure) fxMix (by kernel_rfl) (by simp [Try.ntmps14]) ?_
  intro C cP cI cN cD cF cA
  have cp0 := orcP huge_pure (C := C) (by rw [cP]; rfl)
  have cp1 := orcP check_pure (C := C) (by rw [cP]; rfl)
  have cp2 := orcP none_pure (C := C) (by rw [cP]; rfl)
  replace cI : C.inl = fun _ => false := cI
  replace cD : C.dyn = fun _ => [] := cD
  clear cP cN cF cA
  unfold tbCheck
  have hl8 := t.h
  simp [Try.ntmps14, Try.results14, cSl, cp0, cp1, cp2, cI, cD, rTb]
  refine loop_for 8 (fun k (_ : Unit) => ([(9, .agg t.row), (10, .v (.int .i64 k))], [])) (fun k _ => nodesChk (t.l.drop k) = nodesChk t.l) () (by omega) rfl (by simp) ?_ ?_
  · rintro k _ hk hall hw
    have hk' : k < t.l.length := by omega
    have hki : (k : Int) < 8 := by omega
    rw [List.drop_eq_getElem_cons hk', nodesChk] at hall
    have htk := tb_take t hk
    have hle : k * 2 + 2 ≤ 16 := by omega
    generalize hn : t.l[k]'(by omega) = n at *
    obtain ⟨h, L⟩ := n
    cases h
    · by_cases h8 : L.length = 8
      · have h0 : ¬ L = [] := by intro e; rw [e] at h8; simp at h8
        have hbadE : ¬ firstBad L = 0 → nodeChk ⟨false, L⟩ = firstBad L := fun h => by simp [nodeChk, h8, h]
        have hgoodE : firstBad L = 0 → nodeChk ⟨false, L⟩ = if L.all Entry.none = true ∧ 0 < L.length then 3 else 0 := fun h => by simp [nodeChk, h8, h]
        have h8' : (L.length : Int) = 8 := by omega
        simp [Try.ntmps14, Try.results14, cSl, cp0, cp1, cp2, cI, cD, hk, hki, htk, hle, Nd.row, h8', h0]
        refine loop_for L.length (fun j (_ : Unit) => ([(4, .ptr 0 2 0 0), (5, .v (.bool ((L.take j).all Entry.none))), (9, .agg t.row), (10, .v (.int .i64 k)), (46, .fsl false 7 (L.map Entry.row)), (47, .v (.int .i64 L.length)), (48, .v (.int .i64 j))], [some (2, [Nd.row ⟨false, L⟩])])) (fun j _ => firstBad (L.drop j) = firstBad L) () (by omega) rfl (by simp [Nd.row]; try omega) ?_ ?_
        · rintro j _ hj hbad hw2
          have hat := all_take hj
          rw [List.drop_eq_getElem_cons hj, firstBad] at hbad
          generalize hej : L[j] = e2 at *
          generalize hall2 : (L.take j).all Entry.none = al at *
          by_cases hc : e2.chk = 0
          · rw [if_pos hc] at hbad
            cases al <;> simp [Try.ntmps14, Try.results14, cSl, cp0, cp1, cp2, cI, cD, hj, hw2, hej, hc, hat, Nd.row, rEnt, Entry.row, entDec, hbad]
          · rw [if_neg hc] at hbad
            have hnc := hbadE (by rw [← hbad]; exact hc)
            rw [hnc, if_neg (by rw [← hbad]; exact hc), ← hbad] at hall
            simp [Try.ntmps14, Try.results14, cSl, cp0, cp1, cp2, cI, cD, hj, hw2, hej, hc, Nd.row, rEnt, Entry.row, entDec, ← hall]
        · rintro _ hbad
          simp only [List.drop_length, firstBad] at hbad
          have hfin := hgoodE hbad.symm
          have hpos : 0 < L.length := by omega
          have hpos' : (0 : Int) < L.length := by omega
          have hne : ¬ L = [] := by intro e; rw [e] at hpos; simp at hpos
          simp only [List.take_length]
          cases ha : L.all Entry.none
          · rw [ha, if_neg (by simp)] at hfin
            rw [hfin, if_pos rfl] at hall
            simp [Try.ntmps14, Try.results14, cSl, cp0, cp1, cp2, cI, cD, hw, hall, Nd.row]
          · rw [ha, if_pos ⟨rfl, hpos⟩] at hfin
            rw [hfin, if_neg (by omega)] at hall
            simp [Try.ntmps14, Try.results14, cSl, cp0, cp1, cp2, cI, cD, hpos, hpos', hne, ← hall, Nd.row]
      · by_cases h0 : L = []
        · subst h0
          have : nodeChk ⟨false, []⟩ = 0 := rfl
          rw [this, if_pos rfl] at hall
          simp [Try.ntmps14, Try.results14, cSl, cp0, cp1, cp2, cI, cD, hk, hki, htk, hle, Nd.row]
          refine loop_rounds 1 ?_
          simp [Try.ntmps14, Try.results14, cSl, cp0, cp1, cp2, cI, cD, UnrK, hw, hall]
          done
        · have h8' : ¬ (L.length : Int) = 8 := by omega
          have h0' : ¬ L.length = 0 := fun e => h0 (List.length_eq_zero_iff.1 e)
          have : nodeChk ⟨false, L⟩ = 3 := by simp [nodeChk, h8, h0]
          rw [this, if_neg (by omega)] at hall
          simp [Try.ntmps14, Try.results14, cSl, cp0, cp1, cp2, cI, cD, hk, hki, htk, hle, Nd.row, h0, h8, h8', ← hall]
    · by_cases h1 : L.length = 1
      · have hg0 : L[0]? = some (L[0]'(by omega)) := List.getElem?_eq_getElem (by omega)
        generalize he : L[0]'(by omega) = e at hg0
        have h1' : (L.length : Int) = 1 := by omega
        by_cases hh : hugeE e = true
        · have hbadE : ¬ firstBad L = 0 → nodeChk ⟨true, L⟩ = firstBad L := fun h => by simp [nodeChk, hg0, he, h1, hh, h]
          have hgoodE : firstBad L = 0 → nodeChk ⟨true, L⟩ = if L.all Entry.none = true ∧ 0 < L.length then 3 else 0 := fun h => by simp [nodeChk, hg0, he, h1, hh, h]
          simp [Try.ntmps14, Try.results14, cSl, cp0, cp1, cp2, cI, cD, hk, hki, htk, hle, Nd.row, hh, rEnt, Entry.row, entDec, h1', h1, hg0, he]
          refine loop_for L.length (fun j (_ : Unit) => ([(4, .ptr 0 2 0 0), (5, .v (.bool ((L.take j).all Entry.none))), (9, .agg t.row), (10, .v (.int .i64 k)), (46, .fsl false 7 (L.map Entry.row)), (47, .v (.int .i64 L.length)), (48, .v (.int .i64 j))], [some (2, [Nd.row ⟨true, L⟩])])) (fun j _ => firstBad (L.drop j) = firstBad L) () (by omega) rfl (by simp [Nd.row]; try omega) ?_ ?_
          · rintro j _ hj hbad hw2
            have hat := all_take hj
            rw [List.drop_eq_getElem_cons hj, firstBad] at hbad
            generalize hej : L[j] = e2 at *
            generalize hall2 : (L.take j).all Entry.none = al at *
            by_cases hc : e2.chk = 0
            · rw [if_pos hc] at hbad
              cases al <;> simp [Try.ntmps14, Try.results14, cSl, cp0, cp1, cp2, cI, cD, hj, hw2, hej, hc, hat, Nd.row, rEnt, Entry.row, entDec, hbad]
            · rw [if_neg hc] at hbad
              have hnc := hbadE (by rw [← hbad]; exact hc)
              rw [hnc, if_neg (by rw [← hbad]; exact hc), ← hbad] at hall
              simp [Try.ntmps14, Try.results14, cSl, cp0, cp1, cp2, cI, cD, hj, hw2, hej, hc, Nd.row, rEnt, Entry.row, entDec, ← hall]
          · rintro _ hbad
            simp only [List.drop_length, firstBad] at hbad
            have hfin := hgoodE hbad.symm
            have hpos : 0 < L.length := by omega
            have hpos' : (0 : Int) < L.length := by omega
            have hne : ¬ L = [] := by intro e; rw [e] at hpos; simp at hpos
            simp only [List.take_length]
            cases ha : L.all Entry.none
            · rw [ha, if_neg (by simp)] at hfin
              rw [hfin, if_pos rfl] at hall
              simp [Try.ntmps14, Try.results14, cSl, cp0, cp1, cp2, cI, cD, hw, hall, Nd.row]
            · rw [ha, if_pos ⟨rfl, hpos⟩] at hfin
              rw [hfin, if_neg (by omega)] at hall
              simp [Try.ntmps14, Try.results14, cSl, cp0, cp1, cp2, cI, cD, hpos, hpos', hne, ← hall, Nd.row]
        · have hh' : hugeE e = false := by simpa using hh
          have : nodeChk ⟨true, L⟩ = 3 := by simp [nodeChk, hg0, he, h1, hh']
          rw [this, if_neg (by omega)] at hall
          simp [Try.ntmps14, Try.results14, cSl, cp0, cp1, cp2, cI, cD, hk, hki, htk, hle, Nd.row, hh', ← hall, rEnt, Entry.row, entDec, h1', h1, hg0, he]
      · have h1' : ¬ (L.length : Int) = 1 := by omega
        have : nodeChk ⟨true, L⟩ = 3 := by simp [nodeChk, h1]
        rw [this, if_neg (by omega)] at hall
        simp [Try.ntmps14, Try.results14, cSl, cp0, cp1, cp2, cI, cD, hk, hki, htk, hle, Nd.row, h1, h1', ← hall]
        done
  · rintro _ hall
    rw [List.drop_eq_nil_of_le (by omega)] at hall
    simp only [nodesChk] at hall
    simp [Try.ntmps14, Try.results14, cSl, cp0, cp1, cp2, cI, cD, ← hall]
end Go.Proofs.Ytdhpgdfjogklaaa
