/- Package table: Set, Join, Split, Size. -/
import Derived.Test.YtdhpgdfjogklaaaTbD
import Derived.Test.YtdhpgdfjogklaaaAiZe
import Derived.Test.YtdhpgdfjogklaaaAiZg
namespace Go.Proofs.Ytdhpgdfjogklaaa
open Go.AI
set_option maxHeartbeats 2000000
set_option maxRecDepth 100000
set_option linter.unusedSimpArgs false
set_option linter.unusedVariables false
attribute [local simp] wpA wpX RunA RunD runF foot footP footB idsA bare apart runL step1 gsel_f gsel_t gsel_s res_same res_and1 res_and2 res_and3 res_and4 res_and5 res_and6 res_false res_true res_v res_ptr res_fptr res_osl res_xsl soft aAppendZ aCap ovlI ovlJ res_fsl res_esl res_agg res_tup res_fn res_junk res_anyb aPick hk imp_left iteV dstOk guardOk astep astepE AI.ev AI.look AI.put envOf aBox cellsOf allOne allOneA oneA Value.oneCell' Value.cells newObj' aFieldAddr aLoad obj readAt thenA blockA condA retA resA tupA view hot hotC hotR depthV cAgg cInt cBool mkAgg allV aAlloc aBuild fillA writeAt aStore isAggA aField idx aIndexAddr aIndex bnd aSlice aExtract aLen aBuiltin aCall isStatic eqAgg eqTy eqC ev_add ev_sub ev_mul ev_quo ev_rem ev_and ev_or ev_xor ev_andNot ev_shl ev_shr ev_eql ev_neq ev_lss ev_leq ev_gtr ev_geq ev_agg w64 wu32 wu8 ev_not ev_neg Cod.plain RCod.plain argM finM cold coldC coldR goInt intDec boolDec aggDec Weaker heapW lowA lowC Again slDec undef aBuildSlice setRows aAppend rowsOf aMakeSlice aClear aCopy softer_self softer_nil valsOf ev_min2 ev_max2 hotR_set hotR_append take_map_set irow_cold irow_mapM irow_mapMc irow_view irow_viewc irow_hotR irow_ren irow_renc irow_low WeakT heapT thOf ren renC AgainT NextF NextT fnDec cFn rNil selfLt natLt0 natLt1 getLastMap frame0 frame1 own0 own1 argG finG tau tauI tauO tauC bareA bareC bareH irow_tau irow_tauc irow_bare irow_flat irow_bareR ownA_nil ownT_nil ownA_c ownT_c ownA_s ownT_s takeMapLen footC plainA noId noIdC cloneF frame0F frame1F insertF replaceI replaceF cellDec rCell fpDec cFp rTwo deleteF allV_oA oneA_oA res_oA RunR RunE runFT footAt hotR_cat tmodN frameN newA newC newH fxSz2 fxBy2 fxAg2 fxZe2 fxSl2 fxAr2 fxPl2 fxSz3 fxBy3 fxAg3 fxZe3 fxSl3 fxAr3 fxPl3 fxSz4 fxBy4 fxAg4 fxZe4 fxSl4 fxAr4 fxPl4 fxSz5 fxBy5 fxAg5 fxZe5 fxSl5 fxAr5 fxPl5 fxSz9 fxBy9 fxAg9 fxZe9 fxSl9 fxAr9 fxPl9 fxSz12 fxBy12 fxAg12 fxZe12 fxSl12 fxAr12 fxPl12 fxSz13 fxBy13 fxAg13 fxZe13 fxSl13 fxAr13 fxFi13x0 fxFi13x1 fxPl13 fxSz21 fxBy21 fxAg21 fxZe21 fxSl21 fxAr21 fxPl21 fxSz22 fxBy22 fxAg22 fxZe22 fxSl22 fxAr22 fxPl22 fxSz23 fxBy23 fxAg23 fxZe23 fxSl23 fxAr23 fxFi23x0 fxFi23x1 fxPl23 fxSz24 fxBy24 fxAg24 fxZe24 fxSl24 fxAr24 fxFi24x0 fxFi24x1 fxPl24 fxSz25 fxBy25 fxAg25 fxZe25 fxSl25 fxAr25 fxPl25 fxSz26 fxBy26 fxAg26 fxZe26 fxSl26 fxAr26 fxPl26 fxSz27 fxBy27 fxAg27 fxZe27 fxSl27 fxAr27 fxFi27x0 fxFi27x1 fxFi27x2 fxFi27x3 fxFi27x4 fxFi27x5 fxFi27x6 fxPl27 fxSz28 fxBy28 fxAg28 fxZe28 fxSl28 fxAr28 fxFi28x0 fxFi28x1 fxFi28x2 fxFi28x3 fxFi28x4 fxFi28x5 fxFi28x6 fxPl28 fxSz29 fxBy29 fxAg29 fxZe29 fxSl29 fxAr29 fxPl29 fxSz44 fxBy44 fxAg44 fxZe44 fxSl44 fxAr44 fxPl44 fxSz45 fxBy45 fxAg45 fxZe45 fxSl45 fxAr45 fxPl45 fxSz52 fxBy52 fxAg52 fxZe52 fxSl52 fxAr52 fxPl52 fxSz54 fxBy54 fxAg54 fxZe54 fxSl54 fxAr54 fxFi54x0 fxFi54x1 fxPl54 fxSz55 fxBy55 fxAg55 fxZe55 fxSl55 fxAr55 fxFi55x0 fxFi55x1 fxPl55 fxSz56 fxBy56 fxAg56 fxZe56 fxSl56 fxAr56 fxPl56 fxSz60 fxBy60 fxAg60 fxZe60 fxSl60 fxAr60 fxPl60 fxSz61 fxBy61 fxAg61 fxZe61 fxSl61 fxAr61 fxPl61 fxSz62 fxBy62 fxAg62 fxZe62 fxSl62 fxAr62 fxFi62x0 fxFi62x1 fxPl62 fxSz63 fxBy63 fxAg63 fxZe63 fxSl63 fxAr63 fxFi63x0 fxFi63x1 fxPl63 fxSz76 fxBy76 fxAg76 fxZe76 fxSl76 fxAr76 fxPl76 fxSz83 fxBy83 fxAg83 fxZe83 fxSl83 fxAr83 fxFi83x0 fxFi83x1 fxFi83x2 fxPl83 fxSz84 fxBy84 fxAg84 fxZe84 fxSl84 fxAr84 fxFi84x0 fxFi84x1 fxFi84x2 fxPl84 fxSz99 fxBy99 fxAg99 fxZe99 fxSl99 fxAr99 fxPl99 fxSz106 fxBy106 fxAg106 fxZe106 fxSl106 fxAr106 fxPl106 fxSz107 fxBy107 fxAg107 fxZe107 fxSl107 fxAr107 fxFi107x0 fxPl107 fxSz113 fxBy113 fxAg113 fxZe113 fxSl113 fxAr113 fxPl113 fxSz118 fxBy118 fxAg118 fxZe118 fxSl118 fxAr118 fxPl118 fxEq28 fxEq55 fxEq56 fxEq84 fxCv2x2 fxCv2x3 fxCv2x5 fxCv2x12 fxCv2x21 fxCv2x29 fxCv2x45 fxCv3x2 fxCv3x3 fxCv3x5 fxCv3x12 fxCv3x21 fxCv3x29 fxCv3x45 fxCv5x2 fxCv5x3 fxCv5x5 fxCv5x12 fxCv5x21 fxCv5x29 fxCv5x45 fxCv12x2 fxCv12x3 fxCv12x5 fxCv12x12 fxCv12x21 fxCv12x29 fxCv12x45 fxCv21x2 fxCv21x3 fxCv21x5 fxCv21x12 fxCv21x21 fxCv21x29 fxCv21x45 fxCv29x2 fxCv29x3 fxCv29x5 fxCv29x12 fxCv29x21 fxCv29x29 fxCv29x45 fxCv45x2 fxCv45x3 fxCv45x5 fxCv45x12 fxCv45x21 fxCv45x29 fxCv45x45 fxEb4 fxNb4 fxLt9 fxLn22 fxNe22 fxNn22 fxOe22 fxOn22 fxXe22 fxXn22 fxLn44 fxNe44 fxNn44 fxOe44 fxOn44 fxXe44 fxXn44 fxLn52 fxNe52 fxNn52 fxOe52 fxOn52 fxXe52 fxXn52 fxLn60 fxNe60 fxNn60 fxOe60 fxOn60 fxXe60 fxXn60 fxLn61 fxNe61 fxNn61 fxOe61 fxOn61 fxXe61 fxXn61 fxLn76 fxNe76 fxNn76 fxOe76 fxOn76 fxXe76 fxXn76 fxFn3 fxFm3 fxFb3 fxFi3 fxFj3 fxFn4 fxFm4 fxFb4 fxFi4 fxFj4 fxFn5 fxFm5 fxFb5 fxFi5 fxFj5 fxFn6 fxFm6 fxFb6 fxFi6 fxFj6 fxFn7 fxFm7 fxFb7 fxFi7 fxFj7 fxFn8 fxFm8 fxFb8 fxFi8 fxFj8 fxFn9 fxFm9 fxFb9 fxFi9 fxFj9 fxFn10 fxFm10 fxFb10 fxFi10 fxFj10 fxFn11 fxFm11 fxFb11 fxFi11 fxFj11 fxFn12 fxFm12 fxFb12 fxFi12 fxFj12 fxFn13 fxFm13 fxFb13 fxFi13 fxFj13 fxFn14 fxFm14 fxFb14 fxFi14 fxFj14 fxFn15 fxFm15 fxFb15 fxFi15 fxFj15 fxFn16 fxFm16 fxFb16 fxFi16 fxFj16 fxFn17 fxFm17 fxFb17 fxFi17 fxFj17 fxFn18 fxFm18 fxFb18 fxFi18 fxFj18 fxFn19 fxFm19 fxFb19 fxFi19 fxFj19 fxFn20 fxFm20 fxFb20 fxFi20 fxFj20 fxFn21 fxFm21 fxFb21 fxFi21 fxFj21 fxFn22 fxFm22 fxFb22 fxFi22 fxFj22 fxFn23 fxFm23 fxFb23 fxFi23 fxFj23 fxFn24 fxFm24 fxFb24 fxFi24 fxFj24 fxFn25 fxFm25 fxFb25 fxFi25 fxFj25 fxFn26 fxFm26 fxFb26 fxFi26 fxFj26 fxFn27 fxFm27 fxFb27 fxFi27 fxFj27 fxFn28 fxFm28 fxFb28 fxFi28 fxFj28 fxFn29 fxFm29 fxFb29 fxFi29 fxFj29 fxFn30 fxFm30 fxFb30 fxFi30 fxFj30 fxFn31 fxFm31 fxFb31 fxFi31 fxFj31 fxFn32 fxFm32 fxFb32 fxFi32 fxFj32 fxFn33 fxFm33 fxFb33 fxFi33 fxFj33 fxFn34 fxFm34 fxFb34 fxFi34 fxFj34 fxFn35 fxFm35 fxFb35 fxFi35 fxFj35 fxFn36 fxFm36 fxFb36 fxFi36 fxFj36 fxFn37 fxFm37 fxFb37 fxFi37 fxFj37 fxFn38 fxFm38 fxFb38 fxFi38 fxFj38 fxFn39 fxFm39 fxFb39 fxFi39 fxFj39 fxFn40 fxFm40 fxFb40 fxFi40 fxFj40 fxFn41 fxFm41 fxFb41 fxFi41 fxFj41 fxFn42 fxFm42 fxFb42 fxFi42 fxFj42 fxFn43 fxFm43 fxFb43 fxFi43 fxFj43 fxFn44 fxFm44 fxFb44 fxFi44 fxFj44 fxFn45 fxFm45 fxFb45 fxFi45 fxFj45 fxFn46 fxFm46 fxFb46 fxFi46 fxFj46 fxFn47 fxFm47 fxFb47 fxFi47 fxFj47 fxFn48 fxFm48 fxFb48 fxFi48 fxFj48 fxFn49 fxFm49 fxFb49 fxFi49 fxFj49 fxFn50 fxFm50 fxFb50 fxFi50 fxFj50 fxFn51 fxFm51 fxFb51 fxFi51 fxFj51 fxFn52 fxFm52 fxFb52 fxFi52 fxFj52 fxFn53 fxFm53 fxFb53 fxFi53 fxFj53 fxFn54 fxFm54 fxFb54 fxFi54 fxFj54 fxFn55 fxFm55 fxFb55 fxFi55 fxFj55 fxFn56 fxFm56 fxFb56 fxFi56 fxFj56 fxFn57 fxFm57 fxFb57 fxFi57 fxFj57 fxFn58 fxFm58 fxFb58 fxFi58 fxFj58 fxFn59 fxFm59 fxFb59 fxFi59 fxFj59 fxFn60 fxFm60 fxFb60 fxFi60 fxFj60
attribute [local simp] Entry.eta Entry.cold Entry.mapM Entry.mapMc Entry.view Entry.viewc Entry.hotR Entry.ren Entry.renc Entry.low Entry.tau Entry.tauc Entry.bare Entry.flat Entry.flat1 Entry.mapMt Entry.mapMd Entry.coldt Entry.coldd Entry.hotRt Entry.hotRd
attribute [local simp] Nd.eta Nd.dec_row Nd.dec_hrow Nd.cold Nd.hcold Nd.mapM Nd.mapMc Nd.hmapM Nd.hmapMc Nd.view Nd.viewc Nd.hview Nd.hviewc Nd.hotR Nd.ren Nd.renc Nd.low Nd.hlow
attribute [local simp] tb_write tb_hwrite tb_allV tb_hallV tb_len tb_hlen tb_all tb_hall tb_one tb_hone tb_low tb_hlow tb_lowC tb_hlowC tb_view tb_hview tb_cold tb_hcold tb_hot Tb.dec_row Tb.dec_hrow
def Tb.set (t : Tb) (k : Nat) (n : Nd) : Tb := ⟨t.l.set k n, by rw [List.length_set]; exact t.h⟩
def tbE : Except Int Tb → AVal
  | .ok t => .tup [.agg t.hrow, .v (.int .i64 0)]
  | .error e => .v (.tuple #[.agg #[.bool false, .slice none 0 0, .bool false, .slice none 0 0, .bool false, .slice none 0 0, .bool false, .slice none 0 0, .bool false, .slice none 0 0, .bool false, .slice none 0 0, .bool false, .slice none 0 0, .bool false, .slice none 0 0], .int .i64 e])
def setE (n : Nd) (r : Nat) (x : Entry) : List Entry := (sp8 n).set r x
def setN (n : Nd) (r : Nat) (x : Entry) : Nd := if (setE n r x).all Entry.none = true then ⟨false, []⟩ else ⟨false, setE n r x⟩
def tbSet (t : Tb) (p : Int) (x : Entry) : Except Int Tb :=
  if pageE t p = 0 then (if x.chk = 0 then .ok (t.set (p.toNat / 8) (setN (t.l[p.toNat / 8]?.getD noNd) (p.toNat % 8) x)) else .error x.chk) else .error (pageE t p)
theorem shape8 {n : Nd} (h : nodeChk n = 0) : n.ents.length ≤ 8 := by
  have := hugeNo h
  unfold shape at this
  split at this
  · simp at this; omega
  · simp only [Bool.or_eq_true, decide_eq_true_eq] at this; omega
theorem hrow_take (t : Tb) {k : Nat} (hk : k < 8) : (t.hrow.drop (k * 2)).take 2 = (t.l[k]'(by rw [t.h]; exact hk)).hrow := by
  have := fl_take (nd_hrows t.l) (k := k) (by rw [List.length_map, t.h]; exact hk)
  simpa [Tb.hrow] using this
theorem hrow_write (t : Tb) {k : Nat} (hk : k < 8) (a b : AVal) : writeAt t.hrow (k * 2) [a, b] = fl ((t.l.map Nd.hrow).set k [a, b]) := by
  rw [Tb.hrow, fl_write (nd_hrows t.l) (by rw [List.length_map, t.h]; exact hk) rfl]
theorem hset_len (t : Tb) {k : Nat} (a b : AVal) : (fl ((t.l.map Nd.hrow).set k [a, b])).length = 16 := by
  rw [fl_len]
  · simp [t.h]
  · intro r hr
    rcases List.mem_or_eq_of_mem_set hr with hr | rfl
    · exact nd_hrows _ r hr
    · rfl
theorem allV_mem : ∀ {l : List AVal} {a : AVal}, a ∈ l → (∀ x, a ≠ .v x) → allV l = none
  | [], a, h, _ => by simp at h
  | b :: l, a, h, hn => by
    rcases List.mem_cons.1 h with rfl | h
    · cases a <;> first | rfl | exact absurd rfl (hn _)
    · have := allV_mem h hn
      cases b <;> simp [allV, this]
theorem hset_two (t : Tb) {k : Nat} (a b : AVal) : ∀ r ∈ (t.l.map Nd.hrow).set k [a, b], r.length = 2 := fun r hr => by
  rcases List.mem_or_eq_of_mem_set hr with hr | rfl
  · exact nd_hrows _ r hr
  · rfl
theorem hset_allV (t : Tb) {k : Nat} (hk : k < 8) (a b : AVal) : allV (fl ((t.l.map Nd.hrow).set k [a, b])) = none := by
  obtain ⟨m, hm, hmk⟩ : ∃ m, m < 8 ∧ m ≠ k := by
    by_cases h : k = 0
    · exact ⟨1, by omega, by omega⟩
    · exact ⟨0, by omega, by omega⟩
  have hml : m < ((t.l.map Nd.hrow).set k [a, b]).length := by simp [t.h, hm]
  have hg := fl_get (hset_two t (k := k) a b) hml (j := 1) (by omega)
  have he : ((t.l.map Nd.hrow).set k [a, b])[m] = (t.l[m]'(by rw [t.h]; exact hm)).hrow := by
    rw [List.getElem_set_ne (fun h => hmk h.symm)]; simp
  rw [he] at hg
  exact allV_mem (List.mem_of_getElem? hg) (fun x h => by cases h)
theorem fl_one : ∀ {rs : List Row}, (∀ r ∈ rs, ∀ a ∈ r, oneA a = true) → allOneA (fl rs) = true
  | [], _ => rfl
  | r :: rs, h => by
    have h1 := fl_one (rs := rs) fun x hx => h x (List.mem_cons_of_mem _ hx)
    have h2 := h r List.mem_cons_self
    simp only [fl]
    clear h
    induction r with
    | nil => simpa using h1
    | cons a r ih => simp only [List.cons_append, allOneA, Bool.and_eq_true]; exact ⟨h2 a List.mem_cons_self, ih fun x hx => h2 x (List.mem_cons_of_mem _ hx)⟩
theorem hset_one (t : Tb) {k : Nat} (a b : AVal) (ha : oneA a = true) (hb : oneA b = true) : allOneA (fl ((t.l.map Nd.hrow).set k [a, b])) = true := fl_one fun r hr c hc => by
  rcases List.mem_or_eq_of_mem_set hr with hr | rfl
  · obtain ⟨n, _, rfl⟩ := List.mem_map.1 hr
    simp only [Nd.hrow, List.mem_cons, List.not_mem_nil, or_false] at hc
    rcases hc with rfl | rfl <;> rfl
  · simp only [List.mem_cons, List.not_mem_nil, or_false] at hc
    rcases hc with rfl | rfl
    · exact ha
    · exact hb
theorem set_pure : PureOk Try.prog 11 (argM (cAgg rTb) fun t => argM (cInt .i64) fun p => argM (cAgg rEnt) fun x => finM (some (tbE (tbSet t p x)))) := by
  refine pureS3 Try.func11 rfl ?_
  rintro t p x r' hr
  simp only [Option.some.injEq] at hr
  subst hr
  refine bodyS_of (((((noOrc_ok.withP page_pure).withP check_pure).withP own_pure).withIF split_inl frame0_loc).withIF clean_inl frameA_loc) fxMix (by kernel_rfl) (by simp [Try.ntmps11]) ?_
  intro C cP cI cN cD cF cA
  have cp0 := orcP page_pure (C := C) (by rw [cP]; rfl)
  have cp1 := orcP check_pure (C := C) (by rw [cP]; rfl)
  have cp2 := orcP own_pure (C := C) (by rw [cP]; rfl)
  have cn0 := orcI split_inl (C := C) (by rw [cN]; rfl)
  have cn1 := orcI clean_inl (C := C) (by rw [cN]; rfl)
  replace cI := fun g => congrFun cI g
  simp only [Orc.withP, Orc.withI, Orc.withF, Orc.withD, Orc.withA, noOrc] at cI
  replace cD : C.dyn = fun _ => [] := cD
  clear cP cN cF cA
  unfold tbSet
  have hl8 := t.h
  by_cases h0 : pageE t p = 0
  case neg =>
    simp [Try.ntmps11, Try.results11, cSl, cp0, cp1, cp2, cn0, cn1, cI, cD, rTb, rEnt, Entry.row, entDec, h0, tbE]
    exact showsV _
  by_cases h1 : x.chk = 0
  case neg =>
    simp [Try.ntmps11, Try.results11, cSl, cp0, cp1, cp2, cn0, cn1, cI, cD, rTb, rEnt, Entry.row, entDec, h0, h1, tbE]
    exact showsV _
  obtain ⟨hck, q, rfl, hq⟩ := page_ok h0
  obtain ⟨k, hk⟩ : ∃ k, k = q / 8 := ⟨_, rfl⟩
  obtain ⟨r, hr⟩ : ∃ r, r = q % 8 := ⟨_, rfl⟩
  have hk8 : k < 8 := by omega
  have hr8 : r < 8 := by omega
  have hkl : k < t.l.length := by rw [t.h]; exact hk8
  have e1 : Int.tdiv (q : Int) 8 = (k : Int) := by rw [hk]; rfl
  have e1' : (q : Int) / 8 = (k : Int) := by omega
  have e2 : Int.tmod (q : Int) 8 = (r : Int) := by rw [hr]; rfl
  have e2' : (q : Int) % 8 = (r : Int) := by omega
  have w1 : IntKind.i64.wrap (k : Int) = k := w64 (by omega) (by omega)
  have hall8 : (∀ n, n ∈ t.l → n.ents.length ≤ 8) = True := eq_true fun n hn => shape8 (nodes_ok.1 hck n hn)
  have hsh := hugeNo (nodes_ok.1 hck _ (List.getElem_mem hkl))
  have htk := hrow_take t hk8
  have hle : k * 2 + 2 ≤ 16 := by omega
  have hk8' : (k : Int) < 8 := by omega
  have hr8' : (r : Int) < 8 := by omega
  rw [Int.toNat_natCast, ← hk, ← hr, List.getElem?_eq_getElem hkl, Option.getD_some]
  generalize hn : t.l[k] = n at *
  obtain ⟨h, L⟩ := n
  have hwr := fun a b => hrow_write t hk8 a b
  have hsl := fun a b => hset_len t (k := k) a b
  have hsp := spE_len ⟨h, L⟩ 8
  have hgr : (sp8 ⟨h, L⟩)[r]? = some ((sp8 ⟨h, L⟩)[r]'(by rw [hsp]; exact hr8)) := List.getElem?_eq_getElem (by rw [hsp]; exact hr8)
  have hse : ((sp8 ⟨h, L⟩).map Entry.row).set r x.row = (setE ⟨h, L⟩ r x).map Entry.row := by rw [setE, List.map_set]
  have hsel : (setE ⟨h, L⟩ r x).length = 8 := by rw [setE, List.length_set, hsp]
  have hav := fun a b => hset_allV t hk8 a b
  have hta : ∀ a b, List.take 16 (fl ((t.l.map Nd.hrow).set k [a, b])) = fl ((t.l.map Nd.hrow).set k [a, b]) := fun a b => List.take_of_length_le (by rw [hset_len]; omega)
  have hwa : ∀ a b (row : Row), row.length = 16 → writeAt row 0 (fl ((t.l.map Nd.hrow).set k [a, b])) = fl ((t.l.map Nd.hrow).set k [a, b]) := fun a b row h => writeAt_all (by rw [hset_len, h])
  simp only [Entry.row] at hse
  have ho1 : allOneA (fl ((t.l.map Nd.hrow).set k [.v (.bool false), .v (.slice none 0 0)])) = true := hset_one t _ _ rfl rfl
  have ho2 : allOneA (fl ((t.l.map Nd.hrow).set k [.v (.bool false), .osl 5 7 0 8 8])) = true := hset_one t _ _ rfl rfl
  by_cases hna : (setE ⟨h, L⟩ r x).all Entry.none = true
  · simp [Try.ntmps11, Try.results11, cSl, cp0, cp1, cp2, cn0, cn1, cI, cD, rTb, rEnt, Entry.row, entDec, h0, h1, hall8, e1, e1', e2, e2', w1, htk, hle, hk8', hr8', hsh, Nd.hrow, rNd, ndDec, hwr, hsl, hsp, hgr, hse, hsel, frameA, clA, hna, hav, hta, hwa, ho1, ho2]
    rw [show setN ⟨h, L⟩ r x = ⟨false, []⟩ from if_pos hna]
    simp only [tbE]
    exact showsT2 (shows_tb hkl (showsV _) ⟨by simp only [view]; exact .nil, rfl⟩) (showsV _)
  · simp [Try.ntmps11, Try.results11, cSl, cp0, cp1, cp2, cn0, cn1, cI, cD, rTb, rEnt, Entry.row, entDec, h0, h1, hall8, e1, e1', e2, e2', w1, htk, hle, hk8', hr8', hsh, Nd.hrow, rNd, ndDec, hwr, hsl, hsp, hgr, hse, hsel, frameA, clA, hna, hav, hta, hwa, ho1, ho2]
    rw [show setN ⟨h, L⟩ r x = ⟨false, setE ⟨h, L⟩ r x⟩ from if_neg hna]
    simp only [tbE]
    exact showsT2 (shows_tb hkl (showsV _) (shows_osl (d := 1) hsel.symm rfl (fun e => Entry.view _ 1 e) (fun e => by simp [Entry.row, hotC, hot]))) (showsV _)
def tbSplit (t : Tb) (k : Int) : Except Int Tb :=
  if tbCheck t = 0 then (if k < 0 ∨ 8 ≤ k then .error 1 else if (t.l[k.toNat]?.getD noNd).huge = true then .ok (t.set k.toNat ⟨false, sp8 (t.l[k.toNat]?.getD noNd)⟩) else .error 8) else .error (tbCheck t)
theorem hrow_get0 (t : Tb) {k : Nat} (hk : k < 8) : t.hrow[k * 2]? = some (.v (.bool (t.l[k]'(by rw [t.h]; exact hk)).huge)) := by
  have := fl_get (nd_hrows t.l) (k := k) (j := 0) (by rw [List.length_map, t.h]; exact hk) (by omega)
  simpa [Tb.hrow, Nd.hrow] using this
theorem split_pure : PureOk Try.prog 18 (argM (cAgg rTb) fun t => argM (cInt .i64) fun k => finM (some (tbE (tbSplit t k)))) := by
  refine pureS2 Try.func18 rfl ?_
  rintro t k r' hr
  simp only [Option.some.injEq] at hr
  subst hr
  refine bodyS_of (((noOrc_ok.withP tbCheck_pure).withP own_pure).withIF split_inl frame0_loc) fxMix (by kernel_rfl) (by simp [Try.ntmps18]) ?_
  intro C cP cI cN cD cF cA
  have cp0 := orcP tbCheck_pure (C := C) (by rw [cP]; rfl)
  have cp1 := orcP own_pure (C := C) (by rw [cP]; rfl)
  have cn0 := orcI split_inl (C := C) (by rw [cN]; rfl)
  replace cI := fun g => congrFun cI g
  simp only [Orc.withP, Orc.withI, Orc.withF, Orc.withD, Orc.withA, noOrc] at cI
  replace cD : C.dyn = fun _ => [] := cD
  clear cP cN cF cA
  unfold tbSplit
  have hl8 := t.h
  by_cases hck : tbCheck t = 0
  case neg =>
    simp [Try.ntmps18, Try.results18, cSl, cp0, cp1, cn0, cI, cD, rTb, hck, tbE]
    exact showsV _
  by_cases h1 : k < 0
  · simp [Try.ntmps18, Try.results18, cSl, cp0, cp1, cn0, cI, cD, rTb, hck, h1, tbE]
    exact showsV _
  by_cases h2 : 8 ≤ k
  · simp [Try.ntmps18, Try.results18, cSl, cp0, cp1, cn0, cI, cD, rTb, hck, h1, h2, tbE]
    exact showsV _
  obtain ⟨k, rfl⟩ := Int.eq_ofNat_of_zero_le (show 0 ≤ k by omega)
  have hk8 : k < 8 := by omega
  have hk8' : (k : Int) < 8 := by omega
  have hkl : k < t.l.length := by rw [t.h]; exact hk8
  have hle : k * 2 + 2 ≤ 16 := by omega
  have hle1 : k * 2 + 1 ≤ 16 := by omega
  have hg0 := tb_get0 t hk8
  have hall8 : (∀ n, n ∈ t.l → n.ents.length ≤ 8) = True := eq_true fun n hn => shape8 (nodes_ok.1 hck n hn)
  have hsh := hugeNo (nodes_ok.1 hck _ (List.getElem_mem hkl))
  have htk := hrow_take t hk8
  rw [Int.toNat_natCast, List.getElem?_eq_getElem hkl, Option.getD_some]
  generalize hn : t.l[k] = n at *
  obtain ⟨h, L⟩ := n
  cases h
  · simp [Try.ntmps18, Try.results18, cSl, cp0, cp1, cn0, cI, cD, rTb, hck, h2, hk8', hg0, hle1, tbE]
    exact showsV _
  · have hwr := fun a b => hrow_write t hk8 a b
    have hsl := fun a b => hset_len t (k := k) a b
    have hsp := spE_len ⟨true, L⟩ 8
    have hav := fun a b => hset_allV t hk8 a b
    have hta : ∀ a b, List.take 16 (fl ((t.l.map Nd.hrow).set k [a, b])) = fl ((t.l.map Nd.hrow).set k [a, b]) := fun a b => List.take_of_length_le (by rw [hset_len]; omega)
    have hwa : ∀ a b (row : Row), row.length = 16 → writeAt row 0 (fl ((t.l.map Nd.hrow).set k [a, b])) = fl ((t.l.map Nd.hrow).set k [a, b]) := fun a b row h => writeAt_all (by rw [hset_len, h])
    have ho2 : allOneA (fl ((t.l.map Nd.hrow).set k [.v (.bool false), .osl 4 7 0 8 8])) = true := hset_one t _ _ rfl rfl
    simp [Try.ntmps18, Try.results18, cSl, cp0, cp1, cn0, cI, cD, rTb, rEnt, hck, h2, hk8', hg0, hle1, hall8, htk, hle, hsh, Nd.hrow, rNd, ndDec, hwr, hsl, hsp, hav, hta, hwa, ho2]
    simp only [tbE]
    exact showsT2 (shows_tb hkl (showsV _) (shows_osl (d := 1) hsp.symm rfl (fun e => Entry.view _ 1 e) (fun e => by simp [Entry.row, hotC, hot]))) (showsV _)
/-- Join -/
def subE (e : Entry) (k : Int) : Entry := { e with at_ := IntKind.i64.wrap (e.at_ - k) }
def joins (n : Nd) (k : Nat) : Bool := decide (subE (atN n k) k = atN n 0) && hugeE (atN n 0)
def tbJoin (t : Tb) (k : Int) : Except Int Tb :=
  if tbCheck t = 0 then (if k < 0 ∨ 8 ≤ k then .error 1 else if (List.range 8).all (joins (t.l[k.toNat]?.getD noNd)) = true then .ok (t.set k.toNat ⟨true, [atN (t.l[k.toNat]?.getD noNd) 0]⟩) else .error 8) else .error (tbCheck t)
theorem ent_eq (a b : Entry) : a = b ↔ (a.here = b.here ∧ a.slot = b.slot ∧ a.at_ = b.at_ ∧ a.rights = b.rights ∧ a.used = b.used ∧ a.dirty = b.dirty ∧ a.copy = b.copy) := by cases a; cases b; simp
theorem join_pure : PureOk Try.prog 17 (argM (cAgg rTb) fun t => argM (cInt .i64) fun k => finM (some (tbE (tbJoin t k)))) := by
  refine pureS2 Try.func17 rfl ?_
  rintro t k r' hr
  simp only [Option.some.injEq] at hr
  subst hr
  refine bodyS_of ((((noOrc_ok.withP tbCheck_pure).withP own_pure).withP at_pure).withP huge_pure) fxMix (by kernel_rfl) (by simp [Try.ntmps17]) ?_
  intro C cP cI cN cD cF cA
  have cp0 := orcP tbCheck_pure (C := C) (by rw [cP]; rfl)
  have cp1 := orcP own_pure (C := C) (by rw [cP]; rfl)
  have cp2 := orcP at_pure (C := C) (by rw [cP]; rfl)
  have cp3 := orcP huge_pure (C := C) (by rw [cP]; rfl)
  replace cI : C.inl = fun _ => false := cI
  replace cD : C.dyn = fun _ => [] := cD
  clear cP cN cF cA
  unfold tbJoin
  have hl8 := t.h
  by_cases hck : tbCheck t = 0
  case neg =>
    simp [Try.ntmps17, Try.results17, cSl, cp0, cp1, cp2, cp3, cI, cD, rTb, hck, tbE]
    exact showsV _
  by_cases h1 : k < 0
  · simp [Try.ntmps17, Try.results17, cSl, cp0, cp1, cp2, cp3, cI, cD, rTb, hck, h1, tbE]
    exact showsV _
  by_cases h2 : 8 ≤ k
  · simp [Try.ntmps17, Try.results17, cSl, cp0, cp1, cp2, cp3, cI, cD, rTb, hck, h1, h2, tbE]
    exact showsV _
  obtain ⟨k, rfl⟩ := Int.eq_ofNat_of_zero_le (show 0 ≤ k by omega)
  have hk8 : k < 8 := by omega
  have hk8' : (k : Int) < 8 := by omega
  have hkl : k < t.l.length := by rw [t.h]; exact hk8
  have hle : k * 2 + 2 ≤ 16 := by omega
  have hall8 : (∀ n, n ∈ t.l → n.ents.length ≤ 8) = True := eq_true fun n hn => shape8 (nodes_ok.1 hck n hn)
  have hsh := hugeNo (nodes_ok.1 hck _ (List.getElem_mem hkl))
  have htk := tb_take t hk8
  rw [Int.toNat_natCast, List.getElem?_eq_getElem hkl, Option.getD_some]
  generalize hn : t.l[k] = n at *
  obtain ⟨h, L⟩ := n
  have hk0 : ¬ (k : Int) < 0 := by omega
  simp [Try.ntmps17, Try.results17, cSl, cp0, cp1, cp2, cp3, cI, cD, rTb, rEnt, hck, hk0, h2, hk8', hall8, htk, hle, hsh, Nd.row, rNd, ndDec, Entry.val]
  refine loop_for 8 (fun i (_ : Unit) => ([(1, .v (.int .i64 k)), (2, .ptr 0 16 0 0), (4, .ptr 1 16 0 0), (7, .ptr 2 7 0 0), (29, .v (.int .i64 i))], [some (16, [t.row]), some (16, [[.v (.bool false), .v (.slice none 0 0), .v (.bool false), .v (.slice none 0 0), .v (.bool false), .v (.slice none 0 0), .v (.bool false), .v (.slice none 0 0), .v (.bool false), .v (.slice none 0 0), .v (.bool false), .v (.slice none 0 0), .v (.bool false), .v (.slice none 0 0), .v (.bool false), .v (.slice none 0 0)]]), some (7, [(atN ⟨h, L⟩ 0).row])])) (fun i _ => ∀ j, j < i → joins ⟨h, L⟩ j = true) () (by omega) (by intros; omega) (by simp [Entry.row]) ?_ ?_
  · rintro i _ hi hall hw
    have hi' : (i : Int) < 8 := by omega
    have heq := ent_eq (subE (atN ⟨h, L⟩ i) i) (atN ⟨h, L⟩ 0)
    by_cases hj : joins ⟨h, L⟩ i = true
    · have hj2 := hj
      simp only [joins, Bool.and_eq_true, decide_eq_true_eq] at hj2
      have h3 := heq.1 hj2.1
      simp only [subE] at h3
      simp [Try.ntmps17, Try.results17, cSl, cp0, cp1, cp2, cp3, cI, cD, hi, hi', hw, rTb, rEnt, hk0, hk8', htk, hle, hsh, Nd.row, rNd, ndDec, Entry.val, Entry.row, entDec, h3, hj2.2]
      intro j hlt
      rcases Nat.lt_or_eq_of_le (Nat.le_of_lt_succ hlt) with h | h
      · exact hall j h
      · subst h; exact hj
    · have hno : ¬ ∀ x, x < 8 → joins ⟨h, L⟩ x = true := fun h => hj (h i hi)
      by_cases hs : subE (atN ⟨h, L⟩ i) i = atN ⟨h, L⟩ 0
      · have hh : hugeE (atN ⟨h, L⟩ 0) = false := by
          simp only [joins, hs, decide_true, Bool.true_and] at hj
          simpa using hj
        have h3 := heq.1 hs
        simp only [subE] at h3
        simp [Try.ntmps17, Try.results17, cSl, cp0, cp1, cp2, cp3, cI, cD, hi, hi', hw, rTb, rEnt, hk0, hk8', htk, hle, hsh, Nd.row, rNd, ndDec, Entry.val, Entry.row, entDec, h3, hh, hno, tbE]
        exact showsV _
      · have h3 : ¬ _ := fun h => hs (heq.2 h)
        simp only [subE] at h3
        simp [Try.ntmps17, Try.results17, cSl, cp0, cp1, cp2, cp3, cI, cD, hi, hi', hw, rTb, rEnt, hk0, hk8', htk, hle, hsh, Nd.row, rNd, ndDec, Entry.val, Entry.row, entDec, hno, tbE]
        split
        · exact showsV _
        · rename_i hneg
          exfalso
          refine hs (heq.2 ?_)
          simp only [not_or, Classical.not_not] at hneg
          exact hneg.1
  · rintro _ hall
    have hyes : (∀ x, x < 8 → joins ⟨h, L⟩ x = true) = True := eq_true hall
    have hwr := fun a b => hrow_write t hk8 a b
    have hsl := fun a b => hset_len t (k := k) a b
    have hav := fun a b => hset_allV t hk8 a b
    have hta : ∀ a b, List.take 16 (fl ((t.l.map Nd.hrow).set k [a, b])) = fl ((t.l.map Nd.hrow).set k [a, b]) := fun a b => List.take_of_length_le (by rw [hset_len]; omega)
    have hwa : ∀ a b (row : Row), row.length = 16 → writeAt row 0 (fl ((t.l.map Nd.hrow).set k [a, b])) = fl ((t.l.map Nd.hrow).set k [a, b]) := fun a b row h => writeAt_all (by rw [hset_len, h])
    have ho2 : allOneA (fl ((t.l.map Nd.hrow).set k [.v (.bool true), .osl 3 7 0 1 1])) = true := hset_one t _ _ rfl rfl
    simp [Try.ntmps17, Try.results17, cSl, cp0, cp1, cp2, cp3, cI, cD, rTb, rEnt, hk0, hk8', hall8, hle, hyes, Nd.hrow, Entry.row, hwr, hsl, hav, hta, hwa, ho2]
    simp only [tbE]
    refine showsT2 (shows_tb hkl (showsV _) ?_) (showsV _)
    exact shows_osl (d := 1) (l := [atN ⟨h, L⟩ 0]) (g := Entry.row) rfl rfl (fun e => Entry.view _ 1 e) (fun e => by simp [Entry.row, hotC, hot])
/-- Size -/
def cntN (l : List Nd) : Nat := l.countP fun n => decide (0 < n.ents.length)
def sumN : List Nd → Nat
  | [] => 0
  | n :: l => n.ents.length + sumN l
theorem sumN_app {l m : List Nd} : sumN (l ++ m) = sumN l + sumN m := by
  induction l with
  | nil => simp [sumN]
  | cons n l ih => simp [sumN, ih]; omega
def tbSize (t : Tb) : Int × Int := if tbCheck t = 0 then ((cntN t.l : Nat), (sumN t.l : Nat)) else (0, 0)
theorem size_pure : PureOk Try.prog 16 (argM (cAgg rTb) fun t => finM (some (.v (.tuple #[.int .i64 (tbSize t).1, .int .i64 (tbSize t).2, .int .i64 (tbCheck t)])))) := by
  refine pure1 Try.func16 rfl ?_
  rintro t r hr
  simp only [Option.some.injEq] at hr
  subst hr
  refine body_gen (noOrc_ok.withP tbCheck_pure) fxMix (by kernel_rfl) (by simp [Try.ntmps16]) ?_
  intro C cP cI cN cD cF cA
  have cp0 := orcP tbCheck_pure (C := C) (by rw [cP]; rfl)
  replace cI : C.inl = fun _ => false := cI
  replace cD : C.dyn = fun _ => [] := cD
  clear cP cN cF cA
  unfold tbSize
  have hl8 := t.h
  by_cases hck : tbCheck t = 0
  case neg => simp [Try.ntmps16, Try.results16, cSl, cp0, cI, cD, rTb, hck]
  simp [Try.ntmps16, Try.results16, cSl, cp0, cI, cD, rTb, hck]
  refine loop_for 8 (fun k (_ : Unit) => ([(6, .v (.int .i64 (cntN (t.l.take k)))), (7, .v (.int .i64 (sumN (t.l.take k)))), (15, .agg t.row), (16, .v (.int .i64 k))], [])) (fun k _ => sumN (t.l.take k) ≤ 8 * k ∧ cntN (t.l.take k) ≤ k) () (by omega) (by simp [sumN, cntN]) (by simp [cntN, sumN]) ?_ ?_
  · rintro k _ hk ⟨hs, hcn⟩ hw
    have hkl : k < t.l.length := by omega
    have hki : (k : Int) < 8 := by omega
    have h8 := shape8 (nodes_ok.1 hck _ (List.getElem_mem hkl))
    have htk := tb_take t hk
    have hle : k * 2 + 2 ≤ 16 := by omega
    have e1 : t.l.take (k + 1) = t.l.take k ++ [t.l[k]] := List.take_succ_eq_append_getElem hkl
    have e2 : sumN (t.l.take (k + 1)) = sumN (t.l.take k) + (t.l[k]).ents.length := by rw [e1, sumN_app]; simp [sumN]
    have e3 : cntN (t.l.take (k + 1)) = cntN (t.l.take k) + if 0 < (t.l[k]).ents.length then 1 else 0 := by
      rw [e1, cntN, List.countP_append]; simp [cntN, List.countP_cons]
    generalize t.l[k]'(by omega) = n at *
    obtain ⟨h, L⟩ := n
    simp only at h8 e2 e3
    have w1 : IntKind.i64.wrap ((sumN (t.l.take k) : Int) + (L.length : Int)) = (sumN (t.l.take k) : Int) + (L.length : Int) := w64 (by omega) (by omega)
    have w2 : IntKind.i64.wrap ((cntN (t.l.take k) : Int) + 1) = (cntN (t.l.take k) : Int) + 1 := w64 (by omega) (by omega)
    by_cases hp : 0 < L.length
    · have hp' : (0 : Int) < L.length := by omega
      rw [if_pos hp] at e3
      simp [Try.ntmps16, Try.results16, cSl, cp0, cI, cD, hk, hki, htk, hle, hw, Nd.row, hp, hp', w1, w2, e2, e3]
      omega
    · have hp' : ¬ (0 : Int) < L.length := by omega
      rw [if_neg hp] at e3
      simp [Try.ntmps16, Try.results16, cSl, cp0, cI, cD, hk, hki, htk, hle, hw, Nd.row, hp, hp', w1, w2, e2, e3]
      omega
  · rintro _ _
    have : t.l.take 8 = t.l := List.take_of_length_le (by omega)
    simp [Try.ntmps16, Try.results16, cSl, cp0, cI, cD, this]
end Go.Proofs.Ytdhpgdfjogklaaa
