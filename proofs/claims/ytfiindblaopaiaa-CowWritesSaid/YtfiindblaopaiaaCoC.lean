/- Package cow: many, Fork, More, Write. -/
import Derived.Test.YtfiindblaopaiaaCoB
namespace Go.Proofs.Ytfiindblaopaiaa
open Go.AI
set_option maxHeartbeats 2000000
set_option maxRecDepth 100000
set_option linter.unusedSimpArgs false
set_option linter.unusedVariables false
attribute [local simp] wpA wpX RunA RunD runF foot footP footB idsA bare apart runL step1 gsel_f gsel_t gsel_s res_same res_and1 res_and2 res_and3 res_and4 res_and5 res_and6 res_false res_true res_v res_ptr res_fptr res_osl res_xsl soft aAppendZ aCap ovlI ovlJ res_fsl res_esl res_agg res_tup res_fn res_junk res_anyb aPick hk imp_left iteV dstOk guardOk astep astepE AI.ev AI.look AI.put envOf aBox cellsOf allOne allOneA oneA Value.oneCell' Value.cells newObj' aFieldAddr aLoad obj readAt thenA blockA condA retA resA tupA view hot hotC hotR depthV cAgg cInt cBool mkAgg allV aAlloc aBuild fillA writeAt aStore isAggA aField idx aIndexAddr aIndex bnd aSlice aExtract aLen aBuiltin aCall isStatic eqAgg eqTy eqC ev_add ev_sub ev_mul ev_quo ev_rem ev_and ev_or ev_xor ev_andNot ev_shl ev_shr ev_eql ev_neq ev_lss ev_leq ev_gtr ev_geq ev_agg w64 wu32 wu8 ev_not ev_neg Cod.plain RCod.plain argM finM cold coldC coldR goInt intDec boolDec aggDec Weaker heapW lowA lowC Again slDec undef aBuildSlice setRows aAppend rowsOf aMakeSlice aClear aCopy softer_self softer_nil valsOf ev_min2 ev_max2 hotR_set hotR_append take_map_set irow_cold irow_mapM irow_mapMc irow_view irow_viewc irow_hotR irow_ren irow_renc irow_low WeakT heapT thOf ren renC AgainT NextF NextT fnDec cFn rNil selfLt natLt0 natLt1 getLastMap frame0 frame1 own0 own1 argG finG tau tauI tauO tauC bareA bareC bareH irow_tau irow_tauc irow_bare irow_flat irow_bareR ownA_nil ownT_nil ownA_c ownT_c ownA_s ownT_s takeMapLen footC plainA noId noIdC cloneF frame0F frame1F insertF replaceI replaceF cellDec rCell fpDec cFp rTwo deleteF allV_oA oneA_oA res_oA RunR RunE runFT footAt hotR_cat tmodN fxSz2 fxBy2 fxAg2 fxZe2 fxSl2 fxAr2 fxPl2 fxSz3 fxBy3 fxAg3 fxZe3 fxSl3 fxAr3 fxPl3 fxSz4 fxBy4 fxAg4 fxZe4 fxSl4 fxAr4 fxPl4 fxSz5 fxBy5 fxAg5 fxZe5 fxSl5 fxAr5 fxPl5 fxSz9 fxBy9 fxAg9 fxZe9 fxSl9 fxAr9 fxPl9 fxSz12 fxBy12 fxAg12 fxZe12 fxSl12 fxAr12 fxPl12 fxSz13 fxBy13 fxAg13 fxZe13 fxSl13 fxAr13 fxFi13x0 fxFi13x1 fxPl13 fxSz21 fxBy21 fxAg21 fxZe21 fxSl21 fxAr21 fxPl21 fxSz22 fxBy22 fxAg22 fxZe22 fxSl22 fxAr22 fxPl22 fxSz23 fxBy23 fxAg23 fxZe23 fxSl23 fxAr23 fxFi23x0 fxFi23x1 fxPl23 fxSz24 fxBy24 fxAg24 fxZe24 fxSl24 fxAr24 fxFi24x0 fxFi24x1 fxPl24 fxSz25 fxBy25 fxAg25 fxZe25 fxSl25 fxAr25 fxFi25x0 fxFi25x1 fxPl25 fxSz26 fxBy26 fxAg26 fxZe26 fxSl26 fxAr26 fxFi26x0 fxFi26x1 fxPl26 fxSz27 fxBy27 fxAg27 fxZe27 fxSl27 fxAr27 fxPl27 fxSz34 fxBy34 fxAg34 fxZe34 fxSl34 fxAr34 fxPl34 fxSz37 fxBy37 fxAg37 fxZe37 fxSl37 fxAr37 fxPl37 fxSz45 fxBy45 fxAg45 fxZe45 fxSl45 fxAr45 fxFi45x0 fxFi45x1 fxPl45 fxSz46 fxBy46 fxAg46 fxZe46 fxSl46 fxAr46 fxFi46x0 fxFi46x1 fxPl46 fxSz48 fxBy48 fxAg48 fxZe48 fxSl48 fxAr48 fxPl48 fxSz49 fxBy49 fxAg49 fxZe49 fxSl49 fxAr49 fxPl49 fxSz50 fxBy50 fxAg50 fxZe50 fxSl50 fxAr50 fxFi50x0 fxFi50x1 fxPl50 fxSz51 fxBy51 fxAg51 fxZe51 fxSl51 fxAr51 fxFi51x0 fxFi51x1 fxPl51 fxSz57 fxBy57 fxAg57 fxZe57 fxSl57 fxAr57 fxPl57 fxSz69 fxBy69 fxAg69 fxZe69 fxSl69 fxAr69 fxPl69 fxSz70 fxBy70 fxAg70 fxZe70 fxSl70 fxAr70 fxPl70 fxSz92 fxBy92 fxAg92 fxZe92 fxSl92 fxAr92 fxPl92 fxSz107 fxBy107 fxAg107 fxZe107 fxSl107 fxAr107 fxPl107 fxSz108 fxBy108 fxAg108 fxZe108 fxSl108 fxAr108 fxFi108x0 fxPl108 fxSz111 fxBy111 fxAg111 fxZe111 fxSl111 fxAr111 fxPl111 fxSz115 fxBy115 fxAg115 fxZe115 fxSl115 fxAr115 fxPl115 fxSz120 fxBy120 fxAg120 fxZe120 fxSl120 fxAr120 fxPl120 fxEq26 fxEq70 fxCv2x2 fxCv2x3 fxCv2x5 fxCv2x12 fxCv2x21 fxCv2x27 fxCv2x111 fxCv3x2 fxCv3x3 fxCv3x5 fxCv3x12 fxCv3x21 fxCv3x27 fxCv3x111 fxCv5x2 fxCv5x3 fxCv5x5 fxCv5x12 fxCv5x21 fxCv5x27 fxCv5x111 fxCv12x2 fxCv12x3 fxCv12x5 fxCv12x12 fxCv12x21 fxCv12x27 fxCv12x111 fxCv21x2 fxCv21x3 fxCv21x5 fxCv21x12 fxCv21x21 fxCv21x27 fxCv21x111 fxCv27x2 fxCv27x3 fxCv27x5 fxCv27x12 fxCv27x21 fxCv27x27 fxCv27x111 fxCv111x2 fxCv111x3 fxCv111x5 fxCv111x12 fxCv111x21 fxCv111x27 fxCv111x111 fxEb4 fxNb4 fxLt9 fxLn22 fxNe22 fxNn22 fxOe22 fxOn22 fxXe22 fxXn22 fxLn34 fxNe34 fxNn34 fxOe34 fxOn34 fxXe34 fxXn34 fxLn37 fxNe37 fxNn37 fxOe37 fxOn37 fxXe37 fxXn37 fxLn48 fxNe48 fxNn48 fxOe48 fxOn48 fxXe48 fxXn48 fxLn49 fxNe49 fxNn49 fxOe49 fxOn49 fxXe49 fxXn49 fxLn57 fxNe57 fxNn57 fxOe57 fxOn57 fxXe57 fxXn57 fxLn69 fxNe69 fxNn69 fxOe69 fxOn69 fxXe69 fxXn69 fxLn92 fxNe92 fxNn92 fxOe92 fxOn92 fxXe92 fxXn92 fxFn3 fxFm3 fxFb3 fxFi3 fxFj3 fxFn4 fxFm4 fxFb4 fxFi4 fxFj4 fxFn5 fxFm5 fxFb5 fxFi5 fxFj5 fxFn6 fxFm6 fxFb6 fxFi6 fxFj6 fxFn7 fxFm7 fxFb7 fxFi7 fxFj7 fxFn8 fxFm8 fxFb8 fxFi8 fxFj8 fxFn9 fxFm9 fxFb9 fxFi9 fxFj9 fxFn10 fxFm10 fxFb10 fxFi10 fxFj10 fxFn11 fxFm11 fxFb11 fxFi11 fxFj11 fxFn12 fxFm12 fxFb12 fxFi12 fxFj12 fxFn13 fxFm13 fxFb13 fxFi13 fxFj13 fxFn14 fxFm14 fxFb14 fxFi14 fxFj14 fxFn15 fxFm15 fxFb15 fxFi15 fxFj15 fxFn16 fxFm16 fxFb16 fxFi16 fxFj16 fxFn17 fxFm17 fxFb17 fxFi17 fxFj17 fxFn18 fxFm18 fxFb18 fxFi18 fxFj18 fxFn19 fxFm19 fxFb19 fxFi19 fxFj19 fxFn20 fxFm20 fxFb20 fxFi20 fxFj20 fxFn21 fxFm21 fxFb21 fxFi21 fxFj21 fxFn22 fxFm22 fxFb22 fxFi22 fxFj22 fxFn23 fxFm23 fxFb23 fxFi23 fxFj23 fxFn24 fxFm24 fxFb24 fxFi24 fxFj24 fxFn25 fxFm25 fxFb25 fxFi25 fxFj25 fxFn26 fxFm26 fxFb26 fxFi26 fxFj26 fxFn27 fxFm27 fxFb27 fxFi27 fxFj27 fxFn28 fxFm28 fxFb28 fxFi28 fxFj28 fxFn29 fxFm29 fxFb29 fxFi29 fxFj29 fxFn30 fxFm30 fxFb30 fxFi30 fxFj30 fxFn31 fxFm31 fxFb31 fxFi31 fxFj31 fxFn32 fxFm32 fxFb32 fxFi32 fxFj32 fxFn33 fxFm33 fxFb33 fxFi33 fxFj33 fxFn34 fxFm34 fxFb34 fxFi34 fxFj34 fxFn35 fxFm35 fxFb35 fxFi35 fxFj35 fxFn36 fxFm36 fxFb36 fxFi36 fxFj36 fxFn37 fxFm37 fxFb37 fxFi37 fxFj37 fxFn38 fxFm38 fxFb38 fxFi38 fxFj38 fxFn39 fxFm39 fxFb39 fxFi39 fxFj39 fxFn40 fxFm40 fxFb40 fxFi40 fxFj40 fxFn41 fxFm41 fxFb41 fxFi41 fxFj41 fxFn42 fxFm42 fxFb42 fxFi42 fxFj42 fxFn43 fxFm43 fxFb43 fxFi43 fxFj43 fxFn44 fxFm44 fxFb44 fxFi44 fxFj44 fxFn45 fxFm45 fxFb45 fxFi45 fxFj45 fxFn46 fxFm46 fxFb46 fxFi46 fxFj46 fxFn47 fxFm47 fxFb47 fxFi47 fxFj47 fxFn48 fxFm48 fxFb48 fxFi48 fxFj48 fxFn49 fxFm49 fxFb49 fxFi49 fxFj49 fxFn50 fxFm50 fxFb50 fxFi50 fxFj50 fxFn51 fxFm51 fxFb51 fxFi51 fxFj51 fxFn52 fxFm52 fxFb52 fxFi52 fxFj52 fxFn53 fxFm53 fxFb53 fxFi53 fxFj53 fxFn54 fxFm54 fxFb54 fxFi54 fxFj54 fxFn55 fxFm55 fxFb55 fxFi55 fxFj55 fxFn56 fxFm56 fxFn57 fxFm57 fxFb57 fxFi57 fxFj57 fxFn58 fxFm58 fxFb58 fxFi58 fxFj58 fxFn59 fxFm59 fxFn60 fxFm60 fxFb60 fxFi60 fxFj60 fxFn61 fxFm61 fxFb61 fxFi61 fxFj61 fxFn62 fxFm62 fxFb62 fxFi62 fxFj62 fxFn63 fxFm63 fxFb63 fxFi63 fxFj63 fxFn64 fxFm64 fxFb64 fxFi64 fxFj64 fxFn65 fxFm65 fxFb65 fxFi65 fxFj65 fxFn66 fxFm66 fxFb66 fxFi66 fxFj66
attribute [local simp] rSp_sz spR_cold spR_dec spR_mapM spR_mapMc spR_view spR_viewc spR_hotR spR_ren spR_renc spR_low spR_get spR_len Room.eta Room.dec_row Room.dec_hrow
def cntI (c : Int) (l : List Int) : Int := ((l.count c : Nat) : Int)
def manyI (L : List (List Int)) (c : Int) : Int := ((L.flatten.count c : Nat) : Int)
theorem count_le (c : Int) (l : List Int) : cntI c l ≤ l.length := by unfold cntI; have := List.count_le_length (a := c) (l := l); omega
theorem flat_len {L : List (List Int)} (h : ∀ l ∈ L, l.length ≤ 8) : L.flatten.length ≤ 8 * L.length := by
  induction L with
  | nil => simp
  | cons l L ih =>
    have h1 := h l (by simp)
    have h2 := ih fun x hx => h x (by simp [hx])
    simp only [List.flatten_cons, List.length_append, List.length_cons]
    omega
theorem count_take {l : List Int} {c : Int} {j : Nat} (hj : j < l.length) : cntI c (l.take (j + 1)) = cntI c (l.take j) + (if l[j] = c then 1 else 0) := by
  unfold cntI
  rw [List.take_succ_eq_append_getElem hj, List.count_append, List.count_singleton]
  by_cases h : l[j] = c
  · simp [h]
  · have : (l[j] == c) = false := by simp [h]
    simp [h, this]
theorem many_pure : PureOk Try.prog 48 (argM (cAgg rRoom) fun q => argM (cInt .i64) fun c => finM (if q.spaces.length ≤ 8 ∧ ∀ l ∈ q.spaces, l.length ≤ 8 then some (.v (.int .i64 (manyI q.spaces c))) else none)) := by
  refine pure2 Try.func48 rfl ?_
  rintro q c r hr
  by_cases hc : q.spaces.length ≤ 8 ∧ ∀ l ∈ q.spaces, l.length ≤ 8
  case neg => rw [if_neg hc] at hr; cases hr
  rw [if_pos hc] at hr
  simp only [Option.some.injEq] at hr
  subst hr
  refine body_gen noOrc_ok fxMix (by kernel_rfl) (by simp [Try.ntmps48]) ?_
  intro C cP cI cN cD cF cA
  replace cI : C.inl = fun _ => false := cI
  replace cD : C.dyn = fun _ => [] := cD
  clear cP cN cF cA
  obtain ⟨cs, sp⟩ := q
  simp only at hc
  have hfl := flat_len hc.2
  simp [Try.ntmps48, Try.results48, cSl, cI, cD, rRoom, Room.row]
  refine loop_for sp.length (fun k (_ : Unit) => ([(1, .v (.int .i64 c)), (5, .v (.int .i64 (manyI (sp.take k) c))), (11, .fsl false 1 (sp.map (spR false))), (12, .v (.int .i64 sp.length)), (13, .v (.int .i64 k))], [])) (fun k _ => True) () (by omega) trivial (by simp [manyI]) ?_ ?_
  · rintro k _ hk _ hw
    have hl8 := hc.2 _ (List.getElem_mem hk)
    have hfl2 := flat_len (L := sp.take k) (fun l hl => hc.2 l (List.mem_of_mem_take hl))
    have hc2 := count_le c (sp.take k).flatten
    have htk : (sp.take (k + 1)).flatten = (sp.take k).flatten ++ sp[k] := by
      rw [List.take_succ_eq_append_getElem hk, List.flatten_append]; simp
    have hmk : manyI (sp.take (k + 1)) c = manyI (sp.take k) c + cntI c sp[k] := by
      unfold manyI cntI; rw [htk, List.count_append]; simp
    have hm0 : manyI (sp.take k) c = cntI c (sp.take k).flatten := rfl
    simp only [List.length_take] at hfl2
    generalize hl : sp[k] = l at *
    simp [Try.ntmps48, Try.results48, cSl, cI, cD, hk, hl]
    refine loop_for l.length (fun j (_ : Unit) => ([(1, .v (.int .i64 c)), (5, .v (.int .i64 (manyI (sp.take k) c + cntI c (l.take j)))), (11, .fsl false 1 (sp.map (spR false))), (12, .v (.int .i64 sp.length)), (13, .v (.int .i64 k)), (17, .fsl false 1 (l.map (irow .i64))), (18, .v (.int .i64 l.length)), (19, .v (.int .i64 j))], [])) (fun j _ => True) () (by omega) trivial (by simp [cntI]) ?_ ?_
    · rintro j _ hj _ hw2
      have h1 := count_take (c := c) hj
      have h2 := count_le c (l.take j)
      have h3 : 0 ≤ cntI c (l.take j) := by unfold cntI; omega
      have h4 : 0 ≤ cntI c (sp.take k).flatten := by unfold cntI; omega
      simp only [List.length_take] at h2
      have w1 : IntKind.i64.wrap (manyI (sp.take k) c + cntI c (l.take j) + 1) = manyI (sp.take k) c + (cntI c (l.take j) + 1) := by rw [w64 (by omega) (by omega)]; omega
      by_cases q : l[j] = c
      · rw [if_pos q] at h1
        simp [Try.ntmps48, Try.results48, cSl, cI, cD, hj, irow, hw2, q, w1, h1]
      · rw [if_neg q] at h1
        simp [Try.ntmps48, Try.results48, cSl, cI, cD, hj, irow, hw2, q, h1]
    · rintro _ _
      simp [Try.ntmps48, Try.results48, cSl, cI, cD, hw, hmk]
  · rintro _ _
    simp [Try.ntmps48, Try.results48, cSl, cI, cD]
/-- what a room's parts are like behind a check -/
theorem cow_ok {r : Room} (h : cowCheck r = 0) : (r.cells.length ≤ 64 ∧ r.spaces.length ≤ 8) ∧ (∀ l ∈ r.spaces, l.length ≤ 8 ∧ ∀ x ∈ l, 0 ≤ x ∧ x < r.cells.length) ∧ ∀ c, c < r.cells.length → ∃ l ∈ r.spaces, (c : Int) ∈ l := by
  unfold cowCheck at h
  split at h
  · simp at h
  · rename_i h1
    split at h
    · rename_i h2
      split at h
      · rename_i h3
        refine ⟨by omega, (spGo_ok _ _).1 h2, fun c hc => ?_⟩
        rw [List.all_eq_true] at h3
        have := h3 c (by simpa using hc)
        simp only [inB, decide_eq_true_eq, List.mem_flatten] at this
        obtain ⟨l, h5, h6⟩ := this
        exact ⟨l, h5, h6⟩
      · simp at h
    · rename_i h2; exact absurd h h2
theorem cow_of {r : Room} (h1 : r.cells.length ≤ 64) (h2 : r.spaces.length ≤ 8) (h3 : ∀ l ∈ r.spaces, l.length ≤ 8 ∧ ∀ x ∈ l, 0 ≤ x ∧ x < r.cells.length) (h4 : ∀ c, c < r.cells.length → ∃ l ∈ r.spaces, (c : Int) ∈ l) : cowCheck r = 0 := by
  unfold cowCheck
  rw [if_neg (by omega), if_pos ((spGo_ok _ _).2 h3), if_pos]
  rw [List.all_eq_true]
  intro c hc
  obtain ⟨l, h5, h6⟩ := h4 c (by simpa using hc)
  simp only [inB, decide_eq_true_eq, List.mem_flatten]
  exact ⟨l, h5, h6⟩
theorem sp_ok {r : Room} {s : Int} (h : cowSp r s = 0) : cowCheck r = 0 ∧ ∃ k : Nat, s = k ∧ k < r.spaces.length := by
  unfold cowSp at h
  split at h
  · rename_i h0
    split at h
    · simp at h
    · obtain ⟨k, hk⟩ := Int.eq_ofNat_of_zero_le (show 0 ≤ s by omega)
      exact ⟨h0, k, hk, by omega⟩
  · rename_i h0; exact absurd h h0
theorem cp_bare (q : Room) (b : Nat) : bareA (cpVal q b) = true := by simp [cpVal, bareA, bareC, bare_oA]
theorem cp_bareH (q : Room) (b : Nat) : bareH (cpHeap q b) = true := by
  simp only [cpHeap]
  rw [bareH_oT irow_bare]
  unfold oT
  split
  · simp only [bareH]; exact bareH_ownH irow_bare
  · simp only [bareH, Bool.and_eq_true]; exact ⟨bare_ownR, bareH_ownH irow_bare⟩
theorem cp_tau (q : Room) (b n : Nat) : tau [] n (cpVal q b) = cpVal q (n + b) := by
  simp only [cpVal, tau, tauC, tau_oA]
  rfl
theorem cp_tauO (q : Room) (b n : Nat) : (cpHeap q b).map (tauO [] n) = cpHeap q (n + b) := by
  simp only [List.map_cons, cpHeap, tauO_ownH (irow_tau [] n), tauO_oT (irow_tau [] n)]
  have : tauO [] n (oT 1 (ownR 1 (b + 2) q.spaces)) = oT 1 (ownR 1 (n + b + 2) q.spaces) := by
    unfold oT
    by_cases h : q.spaces = []
    · simp [h, ownR, tauO]
    · rw [if_neg (ownR_ne h), if_neg (ownR_ne h)]
      simp only [tauO, tau_ownR]
      rfl
  rw [this]
theorem cpy_inl : InlOk Try.prog 47 (frame0 (own0 (argG (cAgg rRoom) fun q => finG (if (q.cells.length ≤ 64 ∧ q.spaces.length ≤ 8) ∧ ∀ l ∈ q.spaces, l.length ≤ 8 then some ((cpVal q 2, none :: none :: cpHeap q 2)) else none)))) := frame0_ok cpy_own
def roomE : Except Int Room → AVal
  | .ok r => .tup [.agg r.hrow, .v (.int .i64 0)]
  | .error e => .v (.tuple #[.agg #[.slice none 0 0, .slice none 0 0], .int .i64 e])
def cowFork (r : Room) (s : Int) : Except Int Room :=
  if cowSp r s = 0 then (if r.spaces.length = 8 then .error 6 else .ok ⟨r.cells, r.spaces ++ [r.spaces[s.toNat]?.getD []]⟩) else .error (cowSp r s)
attribute [local simp] cp_bare cp_bareH cp_tau cp_tauO
theorem shows_esl {H : Heap} {d sz : Nat} : ShowsA H (d + 1) (.fsl true sz []) .esl := ⟨by simp only [view]; exact .esl, by simp [view, hot]⟩
theorem irw_view (H : Heap) (d : Nat) (e : Int) {k : IntKind} : List.map (view H d) (irow k e) = irow k e := irow_view H d e
theorem irw_hot {k : IntKind} (e : Int) : hotC (irow k e) = true := by simp [irow, hotC, hot]
/-- a room told: its cells, its spaces at M -/
theorem room_fin {H : Heap} {cs : List Int} {L : List (List Int)} {M m : Nat} {cA : AVal} {rows : List Row} (h4 : ShowsA H 2 (.fsl true 1 (cs.map (irow .u8))) cA) (hm : m = L.length) (hob : obj H M = some (1, rows)) (hl : rows.length = L.length)
    (hr : ∀ (i : Nat) (hi : i < L.length), ∃ x, rows[i]? = some [x] ∧ ShowsA H 1 (.fsl true 1 (L[i].map (irow .i64))) x) : ShowsA H 3 (.agg (Room.hrow ⟨cs, L⟩)) (.agg [cA, .osl M 1 0 m m]) :=
  showsG2 h4 (shows_rows hm hob hl hr)
theorem own_row {H : Heap} {sp : List (List Int)} {c : Nat} (hin : ∀ (i : Nat) (hi : i < sp.length), sp[i] ≠ [] → obj H (i + c) = some (1, sp[i].map (irow .i64))) {i : Nat} (hi : i < sp.length) : ∃ x, (ownR 1 c sp)[i]? = some [x] ∧ ShowsA H 1 (.fsl true 1 (sp[i].map (irow .i64))) x :=
  ⟨_, ownR_get hi, shows_oA (d := 0) (hin i hi) (fun e => irow_view H 0 e) irw_hot⟩
theorem fork_rows {H : Heap} {sp : List (List Int)} {l : List Int} {x : AVal} (hin : ∀ (i : Nat) (hi : i < sp.length), sp[i] ≠ [] → obj H (i + 6) = some (1, sp[i].map (irow .i64))) (hx : ShowsA H 1 (.fsl true 1 (l.map (irow .i64))) x) :
    ∀ (i : Nat) (hi : i < (sp ++ [l]).length), ∃ y, (ownR 1 6 sp ++ [[x]])[i]? = some [y] ∧ ShowsA H 1 (.fsl true 1 ((sp ++ [l])[i].map (irow .i64))) y := by
  intro i hi
  by_cases h : i < sp.length
  · obtain ⟨y, h1, h2⟩ := own_row hin h
    refine ⟨y, by rw [List.getElem?_append_left (by rw [ownR_len]; exact h)]; exact h1, ?_⟩
    rw [List.getElem_append_left h]; exact h2
  · have : i = sp.length := by simp at hi; omega
    subst this
    refine ⟨x, by rw [List.getElem?_append_right (by rw [ownR_len]; exact Nat.le_refl _), ownR_len]; simp, ?_⟩
    simpa using hx
theorem cowFork_pure : PureOk Try.prog 24 (argM (cAgg rRoom) fun q => argM (cInt .i64) fun s => finM (some (roomE (cowFork q s)))) := by
  refine pureS2 Try.func24 rfl ?_
  rintro q s r' hr
  simp only [Option.some.injEq] at hr
  subst hr
  refine bodyS_of ((((noOrc_ok.withP cowSp_pure).withIF cpy_inl frame0_loc).withIF clInt clone_loc).withD (fun i => if i = 7 then [(1,7),(1,8)] else [])) fxMix (by kernel_rfl) (by simp [Try.ntmps24]) ?_
  intro C cP cI cN cD cF cA
  have cp0 := orcP cowSp_pure (C := C) (by rw [cP]; rfl)
  have cn0 := orcI cpy_inl (C := C) (by rw [cN]; rfl)
  have cn1 := orcI clInt (C := C) (by rw [cN]; rfl)
  replace cI := fun g => congrFun cI g
  simp only [Orc.withP, Orc.withI, Orc.withF, Orc.withD, Orc.withA, noOrc] at cI
  replace cD : C.dyn = fun i => if i = 7 then [(1,7),(1,8)] else [] := cD
  replace cF := fun g => congrFun cF g
  simp only [Orc.withP, Orc.withI, Orc.withF, Orc.withD, Orc.withA, noOrc] at cF
  replace cA : C.alt = fun _ => [] := cA
  clear cP cN
  obtain ⟨cs, sp⟩ := q
  unfold cowFork
  simp only
  by_cases h0 : cowSp ⟨cs, sp⟩ s = 0
  case neg =>
    simp [Try.ntmps24, Try.results24, cSl, cp0, cn0, cn1, cI, cD, cF, cA, rI, rRoom, roomDec, Room.row, h0, roomE]
    exact showsV _
  obtain ⟨hck, k, rfl, hk⟩ := sp_ok h0
  obtain ⟨⟨g1, g2⟩, g3, g4⟩ := cow_ok hck
  simp only at hk g1 g2 g3 g4
  by_cases h8 : sp.length = 8
  · have h8' : (sp.length : Int) = 8 := by omega
    simp [Try.ntmps24, Try.results24, cSl, cp0, cn0, cn1, cI, cD, cF, cA, rI, rRoom, roomDec, Room.row, h0, h8, h8', roomE]
    exact showsV _
  have h8' : ¬ (sp.length : Int) = 8 := by omega
  have hcond : (∀ l, l ∈ sp → l.length ≤ 8) = True := eq_true fun l hl => (g3 l hl).1
  rw [if_pos h0, if_neg h8]
  simp [Try.ntmps24, Try.results24, cSl, cp0, cn0, cn1, cI, cD, cF, cA, rI, rRoom, roomDec, Room.row, h0, h8, h8', g1, g2, hcond]
  have hne0 : ¬ sp.length = 0 := by omega
  have hne : ¬ sp = [] := fun e => hne0 (by rw [e]; rfl)
  have hA5 : oA 5 1 sp.length = .osl 5 1 0 sp.length sp.length := oA_pos hne0
  have hO5 : oT 1 (ownR 1 6 sp) = some (1, ownR 1 6 sp) := oT_pos (ownR_ne hne)
  have hg2 : (ownR 1 6 sp)[k]'(by rw [ownR_len]; exact hk) = [oA (k + 6) 1 sp[k].length] := by
    have := ownR_get (sz := 1) (c := 6) hk
    rw [List.getElem?_eq_getElem (by rw [ownR_len]; exact hk)] at this
    simpa using this
  have hgH := ownH_get (sz := 1) (g := irow .i64) hk
  have n1 : ¬ sp.length + 1 ≤ sp.length := by omega
  have n2 : sp.length + 1 ≤ 4294967296 := by omega
  have n3 : ¬ sp.length + 1 < sp.length := by omega
  have hl8 : sp[k].length ≤ 4294967296 := by have := (g3 _ (List.getElem_mem hk)).1; omega
  by_cases hcs : cs = []
  · have hA4 : oA 4 1 cs.length = .esl := by simp [oA, hcs]
    have hT4 : oT 1 (cs.map (irow .u8)) = none := by simp [oT, hcs]
    by_cases hz : sp[k] = []
    · have hA6 : oA (k + 6) 1 sp[k].length = .esl := by simp [oA, hz]
      simp [Try.ntmps24, Try.results24, cSl, cp0, cn0, cn1, cI, cD, cF, cA, cpVal, cpHeap, hA4, hT4, hA5, hO5, hg2, hA6, ownR_len, ownH_len, hk, cloneI, hne0, n1, n2]
      simp only [roomE]
      refine showsT2 (room_fin ?_ (by simp) ?_ (by simp [ownR_len]) (fork_rows ?_ (by rw [hz]; exact shows_esl))) (showsV _)
      · rw [hcs]; exact shows_esl
      · simp [obj, ownH_len, List.getElem?_append_right]
      ·
        intro i hi hnz
        have h1 := ownH_get (sz := 1) (g := irow .i64) hi
        have h2 : ∀ LL : Heap, (ownH 1 (irow .i64) sp ++ LL)[i]? = some (oT 1 (sp[i].map (irow .i64))) := fun LL => by
          rw [List.getElem?_append_left (by rw [ownH_len]; exact hi)]; exact h1
        simp [obj, h1, h2, oT, hnz]
    · have hA6 : oA (k + 6) 1 sp[k].length = .osl (k + 6) 1 0 sp[k].length sp[k].length := oA_pos (fun e => hz (List.length_eq_zero_iff.1 e))
      have hT6 : oT 1 (sp[k].map (irow .i64)) = some (1, sp[k].map (irow .i64)) := oT_pos (by simpa using hz)
      have hgH2 : (ownH 1 (irow .i64) sp)[k]'(by rw [ownH_len]; exact hk) = some (1, sp[k].map (irow .i64)) := by
        rw [List.getElem?_eq_getElem (by rw [ownH_len]; exact hk), hT6] at hgH
        simpa using hgH
      have hz0 : ¬ sp[k].length = 0 := fun e => hz (List.length_eq_zero_iff.1 e)
      simp [Try.ntmps24, Try.results24, cSl, cp0, cn0, cn1, cI, cD, cF, cA, cpVal, cpHeap, hA4, hT4, hA5, hO5, hg2, hA6, hgH2, ownR_len, ownH_len, hk, cloneI, hne0, n1, n2, n3, hl8, hz, hz0]
      simp only [roomE]
      refine showsT2 (room_fin ?_ (by simp) ?_ (by simp [ownR_len]) (fork_rows (x := .osl (sp.length + 1 + 1 + 1 + 1 + 1 + 1) 1 0 sp[k].length sp[k].length) ?_ (shows_osl (d := 0) rfl ?_ (fun e => irow_view _ 0 e) irw_hot))) (showsV _)
      · rw [hcs]; exact shows_esl
      · simp [obj, ownH_len, List.getElem?_append_right]
      ·
        intro i hi hnz
        have h1 := ownH_get (sz := 1) (g := irow .i64) hi
        have h2 : ∀ LL : Heap, (ownH 1 (irow .i64) sp ++ LL)[i]? = some (oT 1 (sp[i].map (irow .i64))) := fun LL => by
          rw [List.getElem?_append_left (by rw [ownH_len]; exact hi)]; exact h1
        simp [obj, h1, h2, oT, hnz]
      · simp [obj, ownH_len, List.getElem?_append_right]
  · have hA4 : oA 4 1 cs.length = .osl 4 1 0 cs.length cs.length := oA_pos (fun e => hcs (List.length_eq_zero_iff.1 e))
    have hT4 : oT 1 (cs.map (irow .u8)) = some (1, cs.map (irow .u8)) := oT_pos (by simpa using hcs)
    by_cases hz : sp[k] = []
    · have hA6 : oA (k + 6) 1 sp[k].length = .esl := by simp [oA, hz]
      simp [Try.ntmps24, Try.results24, cSl, cp0, cn0, cn1, cI, cD, cF, cA, cpVal, cpHeap, hA4, hT4, hA5, hO5, hg2, hA6, ownR_len, ownH_len, hk, cloneI, hne0, n1, n2]
      simp only [roomE]
      refine showsT2 (room_fin ?_ (by simp) ?_ (by simp [ownR_len]) (fork_rows ?_ (by rw [hz]; exact shows_esl))) (showsV _)
      · exact shows_osl (d := 1) rfl (by simp [obj]) (fun e => irow_view _ 1 e) irw_hot
      · simp [obj, ownH_len, List.getElem?_append_right]
      ·
        intro i hi hnz
        have h1 := ownH_get (sz := 1) (g := irow .i64) hi
        have h2 : ∀ LL : Heap, (ownH 1 (irow .i64) sp ++ LL)[i]? = some (oT 1 (sp[i].map (irow .i64))) := fun LL => by
          rw [List.getElem?_append_left (by rw [ownH_len]; exact hi)]; exact h1
        simp [obj, h1, h2, oT, hnz]
    · have hA6 : oA (k + 6) 1 sp[k].length = .osl (k + 6) 1 0 sp[k].length sp[k].length := oA_pos (fun e => hz (List.length_eq_zero_iff.1 e))
      have hT6 : oT 1 (sp[k].map (irow .i64)) = some (1, sp[k].map (irow .i64)) := oT_pos (by simpa using hz)
      have hgH2 : (ownH 1 (irow .i64) sp)[k]'(by rw [ownH_len]; exact hk) = some (1, sp[k].map (irow .i64)) := by
        rw [List.getElem?_eq_getElem (by rw [ownH_len]; exact hk), hT6] at hgH
        simpa using hgH
      have hz0 : ¬ sp[k].length = 0 := fun e => hz (List.length_eq_zero_iff.1 e)
      simp [Try.ntmps24, Try.results24, cSl, cp0, cn0, cn1, cI, cD, cF, cA, cpVal, cpHeap, hA4, hT4, hA5, hO5, hg2, hA6, hgH2, ownR_len, ownH_len, hk, cloneI, hne0, n1, n2, n3, hl8, hz, hz0]
      simp only [roomE]
      refine showsT2 (room_fin ?_ (by simp) ?_ (by simp [ownR_len]) (fork_rows (x := .osl (sp.length + 1 + 1 + 1 + 1 + 1 + 1) 1 0 sp[k].length sp[k].length) ?_ (shows_osl (d := 0) rfl ?_ (fun e => irow_view _ 0 e) irw_hot))) (showsV _)
      · exact shows_osl (d := 1) rfl (by simp [obj]) (fun e => irow_view _ 1 e) irw_hot
      · simp [obj, ownH_len, List.getElem?_append_right]
      ·
        intro i hi hnz
        have h1 := ownH_get (sz := 1) (g := irow .i64) hi
        have h2 : ∀ LL : Heap, (ownH 1 (irow .i64) sp ++ LL)[i]? = some (oT 1 (sp[i].map (irow .i64))) := fun LL => by
          rw [List.getElem?_append_left (by rw [ownH_len]; exact hi)]; exact h1
        simp [obj, h1, h2, oT, hnz]
      · simp [obj, ownH_len, List.getElem?_append_right]
end Go.Proofs.Ytfiindblaopaiaa
