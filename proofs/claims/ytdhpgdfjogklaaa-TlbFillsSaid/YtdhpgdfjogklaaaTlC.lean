/- Package tlb: check, Look, Done. -/
import Derived.Test.YtdhpgdfjogklaaaTlB
namespace Go.Proofs.Ytdhpgdfjogklaaa
open Go.AI
set_option maxHeartbeats 2000000
set_option maxRecDepth 100000
set_option linter.unusedSimpArgs false
set_option linter.unusedVariables false
attribute [local simp] wpA wpX RunA RunD runF foot footP footB idsA bare apart runL step1 gsel_f gsel_t gsel_s res_same res_and1 res_and2 res_and3 res_and4 res_and5 res_and6 res_false res_true res_v res_ptr res_fptr res_osl res_xsl soft aAppendZ aCap ovlI ovlJ res_fsl res_esl res_agg res_tup res_fn res_junk res_anyb aPick hk imp_left iteV dstOk guardOk astep astepE AI.ev AI.look AI.put envOf aBox cellsOf allOne allOneA oneA Value.oneCell' Value.cells newObj' aFieldAddr aLoad obj readAt thenA blockA condA retA resA tupA view hot hotC hotR depthV cAgg cInt cBool mkAgg allV aAlloc aBuild fillA writeAt aStore isAggA aField idx aIndexAddr aIndex bnd aSlice aExtract aLen aBuiltin aCall isStatic eqAgg eqTy eqC ev_add ev_sub ev_mul ev_quo ev_rem ev_and ev_or ev_xor ev_andNot ev_shl ev_shr ev_eql ev_neq ev_lss ev_leq ev_gtr ev_geq ev_agg w64 wu32 wu8 ev_not ev_neg Cod.plain RCod.plain argM finM cold coldC coldR goInt intDec boolDec aggDec Weaker heapW lowA lowC Again slDec undef aBuildSlice setRows aAppend rowsOf aMakeSlice aClear aCopy softer_self softer_nil valsOf ev_min2 ev_max2 hotR_set hotR_append take_map_set irow_cold irow_mapM irow_mapMc irow_view irow_viewc irow_hotR irow_ren irow_renc irow_low WeakT heapT thOf ren renC AgainT NextF NextT fnDec cFn rNil selfLt natLt0 natLt1 getLastMap frame0 frame1 own0 own1 argG finG tau tauI tauO tauC bareA bareC bareH irow_tau irow_tauc irow_bare irow_flat irow_bareR ownA_nil ownT_nil ownA_c ownT_c ownA_s ownT_s takeMapLen footC plainA noId noIdC cloneF frame0F frame1F insertF replaceI replaceF cellDec rCell fpDec cFp rTwo deleteF allV_oA oneA_oA res_oA RunR RunE runFT footAt hotR_cat tmodN fxSz2 fxBy2 fxAg2 fxZe2 fxSl2 fxAr2 fxPl2 fxSz3 fxBy3 fxAg3 fxZe3 fxSl3 fxAr3 fxPl3 fxSz4 fxBy4 fxAg4 fxZe4 fxSl4 fxAr4 fxPl4 fxSz5 fxBy5 fxAg5 fxZe5 fxSl5 fxAr5 fxPl5 fxSz9 fxBy9 fxAg9 fxZe9 fxSl9 fxAr9 fxPl9 fxSz12 fxBy12 fxAg12 fxZe12 fxSl12 fxAr12 fxPl12 fxSz13 fxBy13 fxAg13 fxZe13 fxSl13 fxAr13 fxFi13x0 fxFi13x1 fxPl13 fxSz21 fxBy21 fxAg21 fxZe21 fxSl21 fxAr21 fxPl21 fxSz22 fxBy22 fxAg22 fxZe22 fxSl22 fxAr22 fxPl22 fxSz23 fxBy23 fxAg23 fxZe23 fxSl23 fxAr23 fxFi23x0 fxFi23x1 fxPl23 fxSz24 fxBy24 fxAg24 fxZe24 fxSl24 fxAr24 fxFi24x0 fxFi24x1 fxPl24 fxSz25 fxBy25 fxAg25 fxZe25 fxSl25 fxAr25 fxPl25 fxSz26 fxBy26 fxAg26 fxZe26 fxSl26 fxAr26 fxPl26 fxSz27 fxBy27 fxAg27 fxZe27 fxSl27 fxAr27 fxFi27x0 fxFi27x1 fxFi27x2 fxFi27x3 fxFi27x4 fxFi27x5 fxFi27x6 fxPl27 fxSz28 fxBy28 fxAg28 fxZe28 fxSl28 fxAr28 fxFi28x0 fxFi28x1 fxFi28x2 fxFi28x3 fxFi28x4 fxFi28x5 fxFi28x6 fxPl28 fxSz29 fxBy29 fxAg29 fxZe29 fxSl29 fxAr29 fxPl29 fxSz44 fxBy44 fxAg44 fxZe44 fxSl44 fxAr44 fxPl44 fxSz45 fxBy45 fxAg45 fxZe45 fxSl45 fxAr45 fxPl45 fxSz52 fxBy52 fxAg52 fxZe52 fxSl52 fxAr52 fxPl52 fxSz54 fxBy54 fxAg54 fxZe54 fxSl54 fxAr54 fxFi54x0 fxFi54x1 fxPl54 fxSz55 fxBy55 fxAg55 fxZe55 fxSl55 fxAr55 fxFi55x0 fxFi55x1 fxPl55 fxSz56 fxBy56 fxAg56 fxZe56 fxSl56 fxAr56 fxPl56 fxSz60 fxBy60 fxAg60 fxZe60 fxSl60 fxAr60 fxPl60 fxSz61 fxBy61 fxAg61 fxZe61 fxSl61 fxAr61 fxPl61 fxSz62 fxBy62 fxAg62 fxZe62 fxSl62 fxAr62 fxFi62x0 fxFi62x1 fxPl62 fxSz63 fxBy63 fxAg63 fxZe63 fxSl63 fxAr63 fxFi63x0 fxFi63x1 fxPl63 fxSz76 fxBy76 fxAg76 fxZe76 fxSl76 fxAr76 fxPl76 fxSz83 fxBy83 fxAg83 fxZe83 fxSl83 fxAr83 fxFi83x0 fxFi83x1 fxFi83x2 fxPl83 fxSz84 fxBy84 fxAg84 fxZe84 fxSl84 fxAr84 fxFi84x0 fxFi84x1 fxFi84x2 fxPl84 fxSz99 fxBy99 fxAg99 fxZe99 fxSl99 fxAr99 fxPl99 fxSz106 fxBy106 fxAg106 fxZe106 fxSl106 fxAr106 fxPl106 fxSz107 fxBy107 fxAg107 fxZe107 fxSl107 fxAr107 fxFi107x0 fxPl107 fxSz113 fxBy113 fxAg113 fxZe113 fxSl113 fxAr113 fxPl113 fxSz118 fxBy118 fxAg118 fxZe118 fxSl118 fxAr118 fxPl118 fxEq28 fxEq55 fxEq56 fxEq84 fxCv2x2 fxCv2x3 fxCv2x5 fxCv2x12 fxCv2x21 fxCv2x29 fxCv2x45 fxCv3x2 fxCv3x3 fxCv3x5 fxCv3x12 fxCv3x21 fxCv3x29 fxCv3x45 fxCv5x2 fxCv5x3 fxCv5x5 fxCv5x12 fxCv5x21 fxCv5x29 fxCv5x45 fxCv12x2 fxCv12x3 fxCv12x5 fxCv12x12 fxCv12x21 fxCv12x29 fxCv12x45 fxCv21x2 fxCv21x3 fxCv21x5 fxCv21x12 fxCv21x21 fxCv21x29 fxCv21x45 fxCv29x2 fxCv29x3 fxCv29x5 fxCv29x12 fxCv29x21 fxCv29x29 fxCv29x45 fxCv45x2 fxCv45x3 fxCv45x5 fxCv45x12 fxCv45x21 fxCv45x29 fxCv45x45 fxEb4 fxNb4 fxLt9 fxLn22 fxNe22 fxNn22 fxOe22 fxOn22 fxXe22 fxXn22 fxLn44 fxNe44 fxNn44 fxOe44 fxOn44 fxXe44 fxXn44 fxLn52 fxNe52 fxNn52 fxOe52 fxOn52 fxXe52 fxXn52 fxLn60 fxNe60 fxNn60 fxOe60 fxOn60 fxXe60 fxXn60 fxLn61 fxNe61 fxNn61 fxOe61 fxOn61 fxXe61 fxXn61 fxLn76 fxNe76 fxNn76 fxOe76 fxOn76 fxXe76 fxXn76 fxFn3 fxFm3 fxFb3 fxFi3 fxFj3 fxFn4 fxFm4 fxFb4 fxFi4 fxFj4 fxFn5 fxFm5 fxFb5 fxFi5 fxFj5 fxFn6 fxFm6 fxFb6 fxFi6 fxFj6 fxFn7 fxFm7 fxFb7 fxFi7 fxFj7 fxFn8 fxFm8 fxFb8 fxFi8 fxFj8 fxFn9 fxFm9 fxFb9 fxFi9 fxFj9 fxFn10 fxFm10 fxFb10 fxFi10 fxFj10 fxFn11 fxFm11 fxFb11 fxFi11 fxFj11 fxFn12 fxFm12 fxFb12 fxFi12 fxFj12 fxFn13 fxFm13 fxFb13 fxFi13 fxFj13 fxFn14 fxFm14 fxFb14 fxFi14 fxFj14 fxFn15 fxFm15 fxFb15 fxFi15 fxFj15 fxFn16 fxFm16 fxFb16 fxFi16 fxFj16 fxFn17 fxFm17 fxFb17 fxFi17 fxFj17 fxFn18 fxFm18 fxFb18 fxFi18 fxFj18 fxFn19 fxFm19 fxFb19 fxFi19 fxFj19 fxFn20 fxFm20 fxFb20 fxFi20 fxFj20 fxFn21 fxFm21 fxFb21 fxFi21 fxFj21 fxFn22 fxFm22 fxFb22 fxFi22 fxFj22 fxFn23 fxFm23 fxFb23 fxFi23 fxFj23 fxFn24 fxFm24 fxFb24 fxFi24 fxFj24 fxFn25 fxFm25 fxFb25 fxFi25 fxFj25 fxFn26 fxFm26 fxFb26 fxFi26 fxFj26 fxFn27 fxFm27 fxFb27 fxFi27 fxFj27 fxFn28 fxFm28 fxFb28 fxFi28 fxFj28 fxFn29 fxFm29 fxFb29 fxFi29 fxFj29 fxFn30 fxFm30 fxFb30 fxFi30 fxFj30 fxFn31 fxFm31 fxFb31 fxFi31 fxFj31 fxFn32 fxFm32 fxFb32 fxFi32 fxFj32 fxFn33 fxFm33 fxFb33 fxFi33 fxFj33 fxFn34 fxFm34 fxFb34 fxFi34 fxFj34 fxFn35 fxFm35 fxFb35 fxFi35 fxFj35 fxFn36 fxFm36 fxFb36 fxFi36 fxFj36 fxFn37 fxFm37 fxFb37 fxFi37 fxFj37 fxFn38 fxFm38 fxFb38 fxFi38 fxFj38 fxFn39 fxFm39 fxFb39 fxFi39 fxFj39 fxFn40 fxFm40 fxFb40 fxFi40 fxFj40 fxFn41 fxFm41 fxFb41 fxFi41 fxFj41 fxFn42 fxFm42 fxFb42 fxFi42 fxFj42 fxFn43 fxFm43 fxFb43 fxFi43 fxFj43 fxFn44 fxFm44 fxFb44 fxFi44 fxFj44 fxFn45 fxFm45 fxFb45 fxFi45 fxFj45 fxFn46 fxFm46 fxFb46 fxFi46 fxFj46 fxFn47 fxFm47 fxFb47 fxFi47 fxFj47 fxFn48 fxFm48 fxFb48 fxFi48 fxFj48 fxFn49 fxFm49 fxFb49 fxFi49 fxFj49 fxFn50 fxFm50 fxFb50 fxFi50 fxFj50 fxFn51 fxFm51 fxFb51 fxFi51 fxFj51 fxFn52 fxFm52 fxFb52 fxFi52 fxFj52 fxFn53 fxFm53 fxFb53 fxFi53 fxFj53 fxFn54 fxFm54 fxFb54 fxFi54 fxFj54 fxFn55 fxFm55 fxFb55 fxFi55 fxFj55 fxFn56 fxFm56 fxFb56 fxFi56 fxFj56 fxFn57 fxFm57 fxFb57 fxFi57 fxFj57 fxFn58 fxFm58 fxFb58 fxFi58 fxFj58 fxFn59 fxFm59 fxFb59 fxFi59 fxFj59 fxFn60 fxFm60 fxFb60 fxFi60 fxFj60
attribute [local simp] Ln.eta Ln.cold Ln.mapM Ln.mapMc Ln.view Ln.viewc Ln.hotR Ln.ren Ln.renc Ln.low Ln.tau Ln.tauc Ln.bare Ln.flat Ln.flat1 Ln.mapMt Ln.mapMd Ln.coldt Ln.coldd Ln.hotRt Ln.hotRd
attribute [local simp] Od.eta Od.cold Od.mapM Od.mapMc Od.view Od.viewc Od.hotR Od.ren Od.renc Od.low Od.tau Od.tauc Od.bare Od.flat Od.flat1 Od.mapMt Od.mapMd Od.coldt Od.coldd Od.hotRt Od.hotRd
attribute [local simp] Cpu.eta Cpu.dec_row Cpu.dec_hrow Cpu.cold Cpu.hcold Cpu.mapM Cpu.mapMc Cpu.hmapM Cpu.hmapMc Cpu.view Cpu.viewc Cpu.hview Cpu.hviewc Cpu.hotR Cpu.ren Cpu.renc Cpu.low Cpu.hlow
theorem ln_eq (a b : Ln) : a = b ↔ (a.space = b.space ∧ a.page = b.page ∧ a.word = b.word) := by cases a; cases b; simp
theorem od_eq (a b : Od) : a = b ↔ (a.space = b.space ∧ a.page = b.page) := by cases a; cases b; simp
theorem tlCheck_len {l : List Cpu} (h : tlCheck l = 0) : 1 ≤ l.length ∧ l.length ≤ 4 := by
  unfold tlCheck at h
  split at h <;> omega
theorem tlGo_mem {l : List Cpu} : tlGo l = 0 ↔ ∀ c ∈ l, cpuE c = 0 := by
  induction l with
  | nil => simp [tlGo]
  | cons c l ih =>
    simp only [tlGo, List.mem_cons, forall_eq_or_imp]
    split
    · rename_i h; simp [h, ih]
    · rename_i h; simp [h]
theorem tlCheck_iff {l : List Cpu} : tlCheck l = 0 ↔ 1 ≤ l.length ∧ l.length ≤ 4 ∧ ∀ c ∈ l, cpuE c = 0 := by
  unfold tlCheck
  rw [← tlGo_mem]
  split
  · simp; omega
  · rename_i h
    constructor
    · intro h2; exact ⟨by omega, by omega, h2⟩
    · exact fun h2 => h2.2.2
theorem cpuE_len {c : Cpu} (h : cpuE c = 0) : c.lines.length ≤ 8 ∧ c.orders.length ≤ 4 := by
  unfold cpuE at h
  split at h
  · omega
  · omega
def tlChk (l : List Cpu) (cpu : Int) : Int := if tlCheck l = 0 then (if cpu < 0 ∨ (l.length : Int) ≤ cpu then 4 else 0) else tlCheck l
theorem tlChk_iff {l : List Cpu} {cpu : Int} : tlChk l cpu = 0 ↔ tlCheck l = 0 ∧ 0 ≤ cpu ∧ cpu < l.length := by
  unfold tlChk
  split
  · rename_i h; split
    · simp; omega
    · simp [h]; omega
  · rename_i h; simp [h]
theorem tlChk_pure : PureOk Try.prog 38 (argM (cSl rCpu) fun l => argM (cInt .i64) fun cpu => finM (some (.v (.int .i64 (tlChk l cpu))))) := by
  refine pure2 Try.func38 rfl ?_
  rintro l cpu r hr
  simp only [Option.some.injEq] at hr
  subst hr
  refine body_gen (noOrc_ok.withP tlCheck_pure) fxMix (by kernel_rfl) (by simp [Try.ntmps38]) ?_
  intro C cP cI cN cD cF cA
  have cp0 := orcP tlCheck_pure (C := C) (by rw [cP]; rfl)
  replace cI : C.inl = fun _ => false := cI
  replace cD : C.dyn = fun _ => [] := cD
  clear cP cN cF cA
  unfold tlChk
  by_cases h0 : tlCheck l = 0
  · have hl := tlCheck_len h0
    by_cases h1 : cpu < 0
    · simp [Try.ntmps38, Try.results38, cSl, cp0, cI, cD, rCpu, h0, h1]
    · by_cases h2 : (l.length : Int) ≤ cpu
      · simp [Try.ntmps38, Try.results38, cSl, cp0, cI, cD, rCpu, h0, h1, h2]
      · simp [Try.ntmps38, Try.results38, cSl, cp0, cI, cD, rCpu, h0, h1, h2]
  · simp [Try.ntmps38, Try.results38, cSl, cp0, cI, cD, rCpu, h0]
def cpuAt (l : List Cpu) (cpu : Int) : Cpu := l[cpu.toNat]?.getD ⟨[], []⟩
theorem cpuAt_nat {l : List Cpu} {k : Nat} (hk : k < l.length) : cpuAt l k = l[k] := by simp [cpuAt, hk]
/-- what is known of a page among lines -/
def lkL (L : List Ln) (s p : Int) : Option Int := (L.find? (·.at s p)).map (·.word)
def lkW (L : List Ln) (s p : Int) : Int := if tlFind L s p < 0 then 0 else (L[(tlFind L s p).toNat]?.getD ⟨0, 0, 0⟩).word
def tlLookW (l : List Cpu) (cpu s p : Int) : Int := if tlChk l cpu = 0 then lkW (cpuAt l cpu).lines s p else 0
def tlLookB (l : List Cpu) (cpu s p : Int) : Bool := if tlChk l cpu = 0 then decide (0 ≤ tlFind (cpuAt l cpu).lines s p) else false
theorem tlLook_pure : PureOk Try.prog 21 (argM (cSl rCpu) fun l => argM (cInt .i64) fun cpu => argM (cInt .i64) fun s => argM (cInt .i64) fun p => finM (some (.v (.tuple #[.int .u32 (tlLookW l cpu s p), .bool (tlLookB l cpu s p), .int .i64 (tlChk l cpu)])))) := by
  refine pure4 Try.func21 rfl ?_
  rintro l cpu s p r hr
  simp only [Option.some.injEq] at hr
  subst hr
  refine body_gen ((noOrc_ok.withP tlChk_pure).withP tlFind_pure) fxMix (by kernel_rfl) (by simp [Try.ntmps21]) ?_
  intro C cP cI cN cD cF cA
  have cp0 := orcP tlChk_pure (C := C) (by rw [cP]; rfl)
  have cp1 := orcP tlFind_pure (C := C) (by rw [cP]; rfl)
  replace cI : C.inl = fun _ => false := cI
  replace cD : C.dyn = fun _ => [] := cD
  clear cP cN cF cA
  by_cases h0 : tlChk l cpu = 0
  · obtain ⟨g0, g1, g2⟩ := tlChk_iff.1 h0
    obtain ⟨k, rfl⟩ := Int.eq_ofNat_of_zero_le g1
    have hk : k < l.length := by omega
    have hL := (cpuE_len ((tlCheck_iff.1 g0).2.2 l[k] (List.getElem_mem hk))).1
    unfold tlLookW tlLookB
    rw [cpuAt_nat hk]
    simp only [h0, if_true]
    generalize hck : l[k] = c at *
    obtain ⟨L, O⟩ := c
    simp only at hL
    have hL2 : L.length ≤ 4294967296 := by omega
    by_cases h1 : tlFind L s p < 0
    · have h1' : ¬ 0 ≤ tlFind L s p := by omega
      simp [Try.ntmps21, Try.results21, cSl, cp0, cp1, cI, cD, rCpu, cpuDec, Cpu.row, rLn, h0, hk, hck, h1, h1', lkW, hL2]
    · obtain ⟨j, hj, hjl, _⟩ := idxP_some h1
      replace hj : tlFind L s p = j := hj
      have h1' : ¬ (j : Int) < 0 := by omega
      simp [Try.ntmps21, Try.results21, cSl, cp0, cp1, cI, cD, rCpu, cpuDec, Cpu.row, rLn, lnDec, Ln.row, h0, hk, hck, hj, hjl, h1', lkW, hL2]
  · unfold tlLookW tlLookB
    simp [Try.ntmps21, Try.results21, cSl, cp0, cp1, cI, cD, rCpu, h0]
def idxOd (l : List Od) (p : Od) : Int := idxP (fun x => decide (p = x)) l
theorem odIndex_pure : PureOk Try.prog 60 (argM (cSl rOd) fun l => argM (cAgg rOd) fun p => finM (if l.length ≤ 4294967296 then some (.v (.int .i64 (idxOd l p))) else none)) := by
  refine pure2 Try.func60 rfl ?_
  rintro l p r hr
  by_cases hc : l.length ≤ 4294967296
  case neg => rw [if_neg hc] at hr; cases hr
  rw [if_pos hc] at hr
  simp only [Option.some.injEq] at hr
  subst hr
  refine body_gen noOrc_ok fxMix (by kernel_rfl) (by simp [Try.ntmps60]) ?_
  intro C cP cI cN cD cF cA
  replace cI : C.inl = fun _ => false := cI
  replace cD : C.dyn = fun _ => [] := cD
  clear cP cN cF cA
  simp [Try.ntmps60, Try.results60, cSl, cI, cD, rOd, Od.row]
  refine loop_for l.length (fun k (_ : Unit) => ([(0, .fsl false 2 (l.map Od.row)), (3, .ptr 0 2 0 0), (7, .v (.int .i64 l.length)), (8, .v (.int .i64 k))], [some (2, [p.row])])) (fun k _ => ((l.drop k).findIdx? (fun x => decide (p = x))).map (· + k) = l.findIdx? (fun x => decide (p = x))) () hc (by simp) (by simp [Od.row]) ?_ ?_
  · intro k _ hk hall hw
    rw [find_drop hk] at hall
    have he := od_eq p l[k]
    by_cases q : p = l[k]
    · have q2 := he.1 q
      rw [if_pos (by simpa using q)] at hall
      simp [Try.ntmps60, Try.results60, cSl, cI, cD, hk, hw, Od.row, q2, idxOd, idxP, ← hall]
    · have q2 := fun h => q (he.2 h)
      rw [if_neg (by simpa using q)] at hall
      simp [Try.ntmps60, Try.results60, cSl, cI, cD, hk, hw, Od.row, idxOd, idxP]
      rw [if_neg q2]
      exact hall
  · intro _ hall
    simp at hall
    simp [Try.ntmps60, Try.results60, cSl, cI, cD, idxOd, idxP, ← hall]
theorem odContains_pure : PureOk Try.prog 50 (argM (cSl rOd) fun l => argM (cAgg rOd) fun p => finM (if l.length ≤ 4294967296 then some (.v (.bool (decide (p ∈ l)))) else none)) := by
  refine pure2 Try.func50 rfl ?_
  rintro l p r hr
  by_cases hc : l.length ≤ 4294967296
  case neg => rw [if_neg hc] at hr; cases hr
  rw [if_pos hc] at hr
  simp only [Option.some.injEq] at hr
  subst hr
  refine body_gen (noOrc_ok.withP odIndex_pure) fxMix (by kernel_rfl) (by simp [Try.ntmps50]) ?_
  intro C cP cI cN cD cF cA
  have cp0 := orcP odIndex_pure (C := C) (by rw [cP]; rfl)
  replace cI : C.inl = fun _ => false := cI
  replace cD : C.dyn = fun _ => [] := cD
  clear cP cN cF cA
  have he : (0 ≤ idxOd l p) ↔ p ∈ l := by
    unfold idxOd
    rw [idxP_iff]; simp
  simp [Try.ntmps50, Try.results50, cSl, cp0, cI, cD, rOd, Od.row, odDec, hc, he]
def rCapO : RCod Od := rCell (cFp rOd)
theorem done1_pure : PureOk Try.prog 49 (argM (cAgg rCpu) fun c => argM (cFp rOd) fun o => finM (if c.orders.length ≤ 4294967296 then some (.v (.bool (decide (o ∈ c.orders)))) else none)) := by
  refine pure2 Try.func49 rfl ?_
  rintro c o r hr
  by_cases hc : c.orders.length ≤ 4294967296
  case neg => rw [if_neg hc] at hr; cases hr
  rw [if_pos hc] at hr
  simp only [Option.some.injEq] at hr
  subst hr
  refine body_gen (noOrc_ok.withP odContains_pure) fxMix (by kernel_rfl) (by simp [Try.ntmps49]) ?_
  intro C cP cI cN cD cF cA
  have cp0 := orcP odContains_pure (C := C) (by rw [cP]; rfl)
  replace cI : C.inl = fun _ => false := cI
  replace cD : C.dyn = fun _ => [] := cD
  clear cP cN cF cA
  simp [Try.ntmps49, Try.results49, cSl, cp0, cI, cD, rCpu, cpuDec, Cpu.row, rOd, odDec, Od.row, hc]
end Go.Proofs.Ytdhpgdfjogklaaa
