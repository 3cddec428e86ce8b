/- Package tlb: Fill. -/
import Derived.Test.YtdhpgdfjogklaaaTlI
import Derived.Test.YtdhpgdfjogklaaaAiZe
import Derived.Test.YtdhpgdfjogklaaaAiZf
namespace Go.Proofs.Ytdhpgdfjogklaaa
open Go.AI
set_option maxHeartbeats 2000000
set_option maxRecDepth 100000
set_option linter.unusedSimpArgs false
set_option linter.unusedVariables false
attribute [local simp] wpA wpX RunA RunD runF foot footP footB idsA bare apart runL step1 gsel_f gsel_t gsel_s res_same res_and1 res_and2 res_and3 res_and4 res_and5 res_and6 res_false res_true res_v res_ptr res_fptr res_osl res_xsl soft aAppendZ aCap ovlI ovlJ res_fsl res_esl res_agg res_tup res_fn res_junk res_anyb aPick hk imp_left iteV dstOk guardOk astep astepE AI.ev AI.look AI.put envOf aBox cellsOf allOne allOneA oneA Value.oneCell' Value.cells newObj' aFieldAddr aLoad obj readAt thenA blockA condA retA resA tupA view hot hotC hotR depthV cAgg cInt cBool mkAgg allV aAlloc aBuild fillA writeAt aStore isAggA aField idx aIndexAddr aIndex bnd aSlice aExtract aLen aBuiltin aCall isStatic eqAgg eqTy eqC ev_add ev_sub ev_mul ev_quo ev_rem ev_and ev_or ev_xor ev_andNot ev_shl ev_shr ev_eql ev_neq ev_lss ev_leq ev_gtr ev_geq ev_agg w64 wu32 wu8 ev_not ev_neg Cod.plain RCod.plain argM finM cold coldC coldR goInt intDec boolDec aggDec Weaker heapW lowA lowC Again slDec undef aBuildSlice setRows aAppend rowsOf aMakeSlice aClear aCopy softer_self softer_nil valsOf ev_min2 ev_max2 hotR_set hotR_append take_map_set irow_cold irow_mapM irow_mapMc irow_view irow_viewc irow_hotR irow_ren irow_renc irow_low WeakT heapT thOf ren renC AgainT NextF NextT fnDec cFn rNil selfLt natLt0 natLt1 getLastMap frame0 frame1 own0 own1 argG finG tau tauI tauO tauC bareA bareC bareH irow_tau irow_tauc irow_bare irow_flat irow_bareR ownA_nil ownT_nil ownA_c ownT_c ownA_s ownT_s takeMapLen footC plainA noId noIdC cloneF frame0F frame1F insertF replaceI replaceF cellDec rCell fpDec cFp rTwo deleteF allV_oA oneA_oA res_oA RunR RunE runFT footAt hotR_cat tmodN frameN newA newC newH fxSz2 fxBy2 fxAg2 fxZe2 fxSl2 fxAr2 fxPl2 fxSz3 fxBy3 fxAg3 fxZe3 fxSl3 fxAr3 fxPl3 fxSz4 fxBy4 fxAg4 fxZe4 fxSl4 fxAr4 fxPl4 fxSz5 fxBy5 fxAg5 fxZe5 fxSl5 fxAr5 fxPl5 fxSz9 fxBy9 fxAg9 fxZe9 fxSl9 fxAr9 fxPl9 fxSz12 fxBy12 fxAg12 fxZe12 fxSl12 fxAr12 fxPl12 fxSz13 fxBy13 fxAg13 fxZe13 fxSl13 fxAr13 fxFi13x0 fxFi13x1 fxPl13 fxSz21 fxBy21 fxAg21 fxZe21 fxSl21 fxAr21 fxPl21 fxSz22 fxBy22 fxAg22 fxZe22 fxSl22 fxAr22 fxPl22 fxSz23 fxBy23 fxAg23 fxZe23 fxSl23 fxAr23 fxFi23x0 fxFi23x1 fxPl23 fxSz24 fxBy24 fxAg24 fxZe24 fxSl24 fxAr24 fxFi24x0 fxFi24x1 fxPl24 fxSz25 fxBy25 fxAg25 fxZe25 fxSl25 fxAr25 fxPl25 fxSz26 fxBy26 fxAg26 fxZe26 fxSl26 fxAr26 fxPl26 fxSz27 fxBy27 fxAg27 fxZe27 fxSl27 fxAr27 fxFi27x0 fxFi27x1 fxFi27x2 fxFi27x3 fxFi27x4 fxFi27x5 fxFi27x6 fxPl27 fxSz28 fxBy28 fxAg28 fxZe28 fxSl28 fxAr28 fxFi28x0 fxFi28x1 fxFi28x2 fxFi28x3 fxFi28x4 fxFi28x5 fxFi28x6 fxPl28 fxSz29 fxBy29 fxAg29 fxZe29 fxSl29 fxAr29 fxPl29 fxSz44 fxBy44 fxAg44 fxZe44 fxSl44 fxAr44 fxPl44 fxSz45 fxBy45 fxAg45 fxZe45 fxSl45 fxAr45 fxPl45 fxSz52 fxBy52 fxAg52 fxZe52 fxSl52 fxAr52 fxPl52 fxSz54 fxBy54 fxAg54 fxZe54 fxSl54 fxAr54 fxFi54x0 fxFi54x1 fxPl54 fxSz55 fxBy55 fxAg55 fxZe55 fxSl55 fxAr55 fxFi55x0 fxFi55x1 fxPl55 fxSz56 fxBy56 fxAg56 fxZe56 fxSl56 fxAr56 fxPl56 fxSz60 fxBy60 fxAg60 fxZe60 fxSl60 fxAr60 fxPl60 fxSz61 fxBy61 fxAg61 fxZe61 fxSl61 fxAr61 fxPl61 fxSz62 fxBy62 fxAg62 fxZe62 fxSl62 fxAr62 fxFi62x0 fxFi62x1 fxPl62 fxSz63 fxBy63 fxAg63 fxZe63 fxSl63 fxAr63 fxFi63x0 fxFi63x1 fxPl63 fxSz76 fxBy76 fxAg76 fxZe76 fxSl76 fxAr76 fxPl76 fxSz83 fxBy83 fxAg83 fxZe83 fxSl83 fxAr83 fxFi83x0 fxFi83x1 fxFi83x2 fxPl83 fxSz84 fxBy84 fxAg84 fxZe84 fxSl84 fxAr84 fxFi84x0 fxFi84x1 fxFi84x2 fxPl84 fxSz99 fxBy99 fxAg99 fxZe99 fxSl99 fxAr99 fxPl99 fxSz106 fxBy106 fxAg106 fxZe106 fxSl106 fxAr106 fxPl106 fxSz107 fxBy107 fxAg107 fxZe107 fxSl107 fxAr107 fxFi107x0 fxPl107 fxSz113 fxBy113 fxAg113 fxZe113 fxSl113 fxAr113 fxPl113 fxSz118 fxBy118 fxAg118 fxZe118 fxSl118 fxAr118 fxPl118 fxEq28 fxEq55 fxEq56 fxEq84 fxCv2x2 fxCv2x3 fxCv2x5 fxCv2x12 fxCv2x21 fxCv2x29 fxCv2x45 fxCv3x2 fxCv3x3 fxCv3x5 fxCv3x12 fxCv3x21 fxCv3x29 fxCv3x45 fxCv5x2 fxCv5x3 fxCv5x5 fxCv5x12 fxCv5x21 fxCv5x29 fxCv5x45 fxCv12x2 fxCv12x3 fxCv12x5 fxCv12x12 fxCv12x21 fxCv12x29 fxCv12x45 fxCv21x2 fxCv21x3 fxCv21x5 fxCv21x12 fxCv21x21 fxCv21x29 fxCv21x45 fxCv29x2 fxCv29x3 fxCv29x5 fxCv29x12 fxCv29x21 fxCv29x29 fxCv29x45 fxCv45x2 fxCv45x3 fxCv45x5 fxCv45x12 fxCv45x21 fxCv45x29 fxCv45x45 fxEb4 fxNb4 fxLt9 fxLn22 fxNe22 fxNn22 fxOe22 fxOn22 fxXe22 fxXn22 fxLn44 fxNe44 fxNn44 fxOe44 fxOn44 fxXe44 fxXn44 fxLn52 fxNe52 fxNn52 fxOe52 fxOn52 fxXe52 fxXn52 fxLn60 fxNe60 fxNn60 fxOe60 fxOn60 fxXe60 fxXn60 fxLn61 fxNe61 fxNn61 fxOe61 fxOn61 fxXe61 fxXn61 fxLn76 fxNe76 fxNn76 fxOe76 fxOn76 fxXe76 fxXn76 fxFn3 fxFm3 fxFb3 fxFi3 fxFj3 fxFn4 fxFm4 fxFb4 fxFi4 fxFj4 fxFn5 fxFm5 fxFb5 fxFi5 fxFj5 fxFn6 fxFm6 fxFb6 fxFi6 fxFj6 fxFn7 fxFm7 fxFb7 fxFi7 fxFj7 fxFn8 fxFm8 fxFb8 fxFi8 fxFj8 fxFn9 fxFm9 fxFb9 fxFi9 fxFj9 fxFn10 fxFm10 fxFb10 fxFi10 fxFj10 fxFn11 fxFm11 fxFb11 fxFi11 fxFj11 fxFn12 fxFm12 fxFb12 fxFi12 fxFj12 fxFn13 fxFm13 fxFb13 fxFi13 fxFj13 fxFn14 fxFm14 fxFb14 fxFi14 fxFj14 fxFn15 fxFm15 fxFb15 fxFi15 fxFj15 fxFn16 fxFm16 fxFb16 fxFi16 fxFj16 fxFn17 fxFm17 fxFb17 fxFi17 fxFj17 fxFn18 fxFm18 fxFb18 fxFi18 fxFj18 fxFn19 fxFm19 fxFb19 fxFi19 fxFj19 fxFn20 fxFm20 fxFb20 fxFi20 fxFj20 fxFn21 fxFm21 fxFb21 fxFi21 fxFj21 fxFn22 fxFm22 fxFb22 fxFi22 fxFj22 fxFn23 fxFm23 fxFb23 fxFi23 fxFj23 fxFn24 fxFm24 fxFb24 fxFi24 fxFj24 fxFn25 fxFm25 fxFb25 fxFi25 fxFj25 fxFn26 fxFm26 fxFb26 fxFi26 fxFj26 fxFn27 fxFm27 fxFb27 fxFi27 fxFj27 fxFn28 fxFm28 fxFb28 fxFi28 fxFj28 fxFn29 fxFm29 fxFb29 fxFi29 fxFj29 fxFn30 fxFm30 fxFb30 fxFi30 fxFj30 fxFn31 fxFm31 fxFb31 fxFi31 fxFj31 fxFn32 fxFm32 fxFb32 fxFi32 fxFj32 fxFn33 fxFm33 fxFb33 fxFi33 fxFj33 fxFn34 fxFm34 fxFb34 fxFi34 fxFj34 fxFn35 fxFm35 fxFb35 fxFi35 fxFj35 fxFn36 fxFm36 fxFb36 fxFi36 fxFj36 fxFn37 fxFm37 fxFb37 fxFi37 fxFj37 fxFn38 fxFm38 fxFb38 fxFi38 fxFj38 fxFn39 fxFm39 fxFb39 fxFi39 fxFj39 fxFn40 fxFm40 fxFb40 fxFi40 fxFj40 fxFn41 fxFm41 fxFb41 fxFi41 fxFj41 fxFn42 fxFm42 fxFb42 fxFi42 fxFj42 fxFn43 fxFm43 fxFb43 fxFi43 fxFj43 fxFn44 fxFm44 fxFb44 fxFi44 fxFj44 fxFn45 fxFm45 fxFb45 fxFi45 fxFj45 fxFn46 fxFm46 fxFb46 fxFi46 fxFj46 fxFn47 fxFm47 fxFb47 fxFi47 fxFj47 fxFn48 fxFm48 fxFb48 fxFi48 fxFj48 fxFn49 fxFm49 fxFb49 fxFi49 fxFj49 fxFn50 fxFm50 fxFb50 fxFi50 fxFj50 fxFn51 fxFm51 fxFb51 fxFi51 fxFj51 fxFn52 fxFm52 fxFb52 fxFi52 fxFj52 fxFn53 fxFm53 fxFb53 fxFi53 fxFj53 fxFn54 fxFm54 fxFb54 fxFi54 fxFj54 fxFn55 fxFm55 fxFb55 fxFi55 fxFj55 fxFn56 fxFm56 fxFb56 fxFi56 fxFj56 fxFn57 fxFm57 fxFb57 fxFi57 fxFj57 fxFn58 fxFm58 fxFb58 fxFi58 fxFj58 fxFn59 fxFm59 fxFb59 fxFi59 fxFj59 fxFn60 fxFm60 fxFb60 fxFi60 fxFj60
attribute [local simp] Ln.eta Ln.cold Ln.mapM Ln.mapMc Ln.view Ln.viewc Ln.hotR Ln.ren Ln.renc Ln.low Ln.tau Ln.tauc Ln.bare Ln.flat Ln.flat1 Ln.mapMt Ln.mapMd Ln.coldt Ln.coldd Ln.hotRt Ln.hotRd
attribute [local simp] Od.eta Od.cold Od.mapM Od.mapMc Od.view Od.viewc Od.hotR Od.ren Od.renc Od.low Od.tau Od.tauc Od.bare Od.flat Od.flat1 Od.mapMt Od.mapMd Od.coldt Od.coldd Od.hotRt Od.hotRd
attribute [local simp] Cpu.eta Cpu.dec_row Cpu.dec_hrow Cpu.cold Cpu.hcold Cpu.mapM Cpu.mapMc Cpu.hmapM Cpu.hmapMc Cpu.view Cpu.viewc Cpu.hview Cpu.hviewc Cpu.hotR Cpu.ren Cpu.renc Cpu.low Cpu.hlow
def mdL (j : Nat) : Mode := fun i => (i == j, false)
def flE : Except Int (List Cpu) → AVal
  | .ok l => .tup [.fsl true 2 (l.map Cpu.hrow), .v (.int .i64 0)]
  | .error e => .v (.tuple #[.slice none 0 0, .int .i64 e])
def fillL (L : List Ln) (x : Ln) : List Ln :=
  let M := L.filter (fun y => !(y.at x.space x.page))
  (if M.length = 8 then M.drop 1 else M) ++ [x]
def tlFill (l : List Cpu) (cpu s p w : Int) : Except Int (List Cpu) :=
  if tlChk l cpu = 0 then (if okSP s p = true then .ok (l.set cpu.toNat ⟨fillL (cpuAt l cpu).lines ⟨s, p, w⟩, (cpuAt l cpu).orders⟩) else .error 1) else .error (tlChk l cpu)
theorem shR_get {md : Mode} {l : List Cpu} {c k : Nat} (hk : k < l.length) : (shR md 0 c l)[k]? = some (segR (md k) (c + (shT md 0 (l.take k)).length) l[k]) := by
  have e : l = l.take k ++ [l[k]] ++ l.drop (k + 1) := by
    rw [← List.take_succ_eq_append_getElem hk, List.take_append_drop]
  have hgen : ∀ (i c : Nat) (l : List Cpu) (k : Nat) (hk : k < l.length), (shR md i c l)[k]? = some (segR (md (i + k)) (c + (shT md i (l.take k)).length) l[k]) := by
    intro i c l
    induction l generalizing i c with
    | nil => intro k hk; simp at hk
    | cons x l ih =>
      intro k hk
      cases k with
      | zero => simp [shR, shT]
      | succ k =>
        simp only [shR, List.getElem?_cons_succ, List.getElem_cons_succ, List.take_succ_cons, shT, List.length_append]
        rw [ih (i + 1) _ k (by simpa using hk)]
        rw [show i + 1 + k = i + (k + 1) by omega, Nat.add_assoc]
  simpa using hgen 0 c l k hk
theorem shT_split {md : Mode} {l : List Cpu} {k : Nat} (hk : k < l.length) : shT md 0 l = shT md 0 (l.take k) ++ (lnT (md k).1 l[k].lines ++ (odT (md k).2 l[k].orders ++ shT md (k + 1) (l.drop (k + 1)))) := by
  have hgen : ∀ (i : Nat) (l : List Cpu) (k : Nat) (hk : k < l.length), shT md i l = shT md i (l.take k) ++ (lnT (md (i + k)).1 l[k].lines ++ (odT (md (i + k)).2 l[k].orders ++ shT md (i + k + 1) (l.drop (k + 1)))) := by
    intro i l
    induction l generalizing i with
    | nil => intro k hk; simp at hk
    | cons x l ih =>
      intro k hk
      cases k with
      | zero => simp [shT, segT]
      | succ k =>
        simp only [shT, List.getElem_cons_succ, List.take_succ_cons, List.drop_succ_cons, List.append_assoc]
        rw [ih (i + 1) k (by simpa using hk), show i + 1 + k = i + (k + 1) by omega]
  simpa using hgen 0 l k hk
theorem segR_view {H : Heap} {d c : Nat} {x : Cpu} : List.map (view H (d + 1)) (segR (false, false) c x) = x.hrow := by
  simp [segR, lnA, odA, Cpu.hrow]
theorem shR_vset {md : Mode} {H : Heap} {d i c k : Nat} {l : List Cpu} {r : Row} (h : ∀ j, i + j ≠ i + k → md (i + j) = (false, false)) : (List.map (fun r => List.map (view H (d + 1)) r) (shR md i c l)).set k r = (l.map Cpu.hrow).set k r := by
  induction l generalizing i c k with
  | nil => simp [shR]
  | cons x l ih =>
    cases k with
    | zero =>
      simp only [shR, List.map_cons, List.set_cons_zero, List.cons.injEq, true_and]
      have h2 := ih (i := i + 1) (c := c + (segT (md i) x).length) (k := l.length) (fun j hj => by have := h (j + 1) (by omega); rwa [show i + (j + 1) = i + 1 + j by omega] at this)
      rwa [List.set_eq_of_length_le (by simp [shR_len]), List.set_eq_of_length_le (by simp)] at h2
    | succ k =>
      simp only [shR, List.map_cons, List.set_cons_succ]
      rw [ih (fun j hj => by have := h (j + 1) (by omega); rwa [show i + (j + 1) = i + 1 + j by omega] at this)]
      have h0 := h 0 (by omega)
      rw [Nat.add_zero] at h0
      rw [h0, segR_view]
theorem get3 {a b c x : Option (Nat × List Row)} {A B : Heap} : (a :: b :: c :: (A ++ (x :: B)))[3 + A.length]? = some x := by
  rw [Nat.add_comm]; simp
theorem set3 {a b c x y : Option (Nat × List Row)} {A B : Heap} : (a :: b :: c :: (A ++ (x :: B))).set (3 + A.length) y = a :: b :: c :: (A ++ (y :: B)) := by
  rw [Nat.add_comm]; simp
theorem flE_ok {l : List Cpu} {k : Nat} {c : Cpu} {R : Row} (hR : R = c.hrow) : AVal.tup [.fsl true 2 ((l.map Cpu.hrow).set k R), .v (.int .i64 0)] = flE (.ok (l.set k c)) ∧ hot (flE (.ok (l.set k c))) = true := by
  subst hR
  refine ⟨?_, ?_⟩
  · simp [flE]
  · simp [flE, hot, hotC]
    rw [← List.map_set]
    exact Cpu.hotR _
theorem tlFill_pure : PureOk Try.prog 19 (argM (cSl rCpu) fun l => argM (cInt .i64) fun cpu => argM (cInt .i64) fun s => argM (cInt .i64) fun p => argM (cInt .u32) fun w => finM (some (flE (tlFill l cpu s p w)))) := by
  refine pure5 Try.func19 rfl ?_
  rintro l cpu s p w r hr
  simp only [Option.some.injEq] at hr
  subst hr
  refine body_gen ((((noOrc_ok.withP tlChk_pure).withP tlRight_pure).withIF (cpy_inl (mdL cpu.toNat)) frameN_loc).withI fillDel_inl) fxMix (by kernel_rfl) (by simp [Try.ntmps19]) ?_
  intro C cP cI cN cD cF cA
  have cp0 := orcP tlChk_pure (C := C) (by rw [cP]; rfl)
  have cp1 := orcP tlRight_pure (C := C) (by rw [cP]; rfl)
  have cn0 := orcI (cpy_inl (mdL cpu.toNat)) (C := C) (by rw [cN]; rfl)
  have cn1 := orcI fillDel_inl (C := C) (by rw [cN]; rfl)
  replace cI := fun g => congrFun cI g
  simp only [Orc.withP, Orc.withI, Orc.withF, Orc.withD, Orc.withA, noOrc] at cI
  replace cD : C.dyn = fun _ => [] := cD
  clear cP cN cF cA
  unfold tlFill
  by_cases h0 : tlChk l cpu = 0
  case neg => simp [Try.ntmps19, Try.results19, cSl, cp0, cp1, cn0, cn1, cI, cD, rCpu, cpuDec, Cpu.row, rLn, lnDec, rOd, odDec, h0, flE]
  by_cases h1 : okSP s p = true
  case neg =>
    simp only [Bool.not_eq_true] at h1
    simp [Try.ntmps19, Try.results19, cSl, cp0, cp1, cn0, cn1, cI, cD, rCpu, cpuDec, Cpu.row, rLn, lnDec, rOd, odDec, h0, h1, flE]
  obtain ⟨g0, g1, g2⟩ := tlChk_iff.1 h0
  obtain ⟨k, rfl⟩ := Int.eq_ofNat_of_zero_le g1
  have hk : k < l.length := by omega
  obtain ⟨l1, l2, l3⟩ := tlCheck_iff.1 g0
  have hcp : (∀ c ∈ l, c.lines.length ≤ 8 ∧ c.orders.length ≤ 4) = True := eq_true fun c hc => cpuE_len (l3 c hc)
  have hg := shR_get (md := mdL k) (c := 3) hk
  have hgl := shR_len (mdL k) 0 3 l
  have hsp := shT_split (md := mdL k) hk
  have hoth : ∀ j, 0 + j ≠ 0 + k → mdL k (0 + j) = (false, false) := by intro j hj; simp [mdL]; omega
  have hmd : mdL k k = (true, false) := by simp [mdL]
  rw [hmd] at hg hsp
  generalize shT (mdL k) 0 (l.take k) = A at hg hsp
  generalize shT (mdL k) (k + 1) (l.drop (k + 1)) = B at hsp
  generalize hck : l[k] = c at *
  obtain ⟨L, O⟩ := c
  have hg2 : (shR (mdL k) 0 3 l)[k]'(by rw [hgl]; exact hk) = segR (true, false) (3 + A.length) ⟨L, O⟩ := by
    rw [List.getElem?_eq_getElem (by rw [hgl]; exact hk)] at hg
    exact Option.some.inj hg
  simp [Try.ntmps19, Try.results19, cSl, cp0, cp1, cn0, cn1, cI, cD, rCpu, cpuDec, Cpu.row, rLn, lnDec, rOd, odDec, h0, h1, l1, l2, hcp, shR_tau, shT_tau, shR_new, shT_new]
  by_cases e : L = []
  · subst e
    rw [hsp]
    simp [Try.ntmps19, Try.results19, cSl, cp0, cp1, cn0, cn1, cI, cD, hk, hgl, hg2, segR, lnA, odA, lnT, rCapL, rI, irow, irowDec, rLn, Ln.row, lnDec, shR_vset hoth, List.take_of_length_le]
    refine flE_ok ?_
    rw [cpuAt_nat hk, hck]
    simp [fillL, Cpu.hrow, Ln.row]
  have hpos : 0 < L.length := List.length_pos_iff.2 e
  have hL8 : L.length ≤ 8 := (cpuE_len (l3 ⟨L, O⟩ (hck ▸ List.getElem_mem hk))).1
  have hL9 : L.length ≤ 1048576 := by omega
  rw [hsp]
  simp [Try.ntmps19, Try.results19, cSl, cp0, cp1, cn0, cn1, cI, cD, hpos, hL9, hk, hgl, hg2, segR, lnA, odA, lnT, e, get3, set3, rCapL, rI, irow, irowDec, rLn, Ln.row, lnDec]
  have hML : (L.filter (fun x => !x.at s p)).length ≤ L.length := List.length_filter_le _ _
  generalize hM : L.filter (fun x => !x.at s p) = M at hML ⊢
  by_cases hm8 : M.length = 8
  · have hm8' : (M.length : Int) = 8 := by omega
    have hL88 : L.length = 8 := by omega
    have hv1 : ∀ x ∈ (M.map Ln.row).tail, vRow x = true := by
      intro x hx
      obtain ⟨y, _, rfl⟩ := List.mem_map.1 (List.mem_of_mem_tail hx)
      rfl
    have hv1' := eq_true hv1
    have hv2 : vRow [.v (.int .i64 s), .v (.int .i64 p), .v (.int .u32 w)] = true := rfl
    simp [Try.ntmps19, Try.results19, cSl, cp0, cp1, cn0, cn1, cI, cD, hm8, hm8', hL88, get3, set3, hk, hgl, hg2, segR, lnA, odA, e, hv1', hv2, shR_vset hoth, List.take_of_length_le]
    refine flE_ok ?_
    rw [cpuAt_nat hk, hck]
    simp [fillL, Cpu.hrow, Ln.row, hM, hm8]
  have hm8' : ¬ (M.length : Int) = 8 := by omega
  by_cases hm : M.length < L.length
  · have hm1 : M.length ≤ 4294967295 := by omega
    have hm2 : M.length + 1 ≤ L.length := by omega
    simp [Try.ntmps19, Try.results19, cSl, cp0, cp1, cn0, cn1, cI, cD, hm8', hm, hm1, hm2, get3, set3, hk, hgl, hg2, segR, lnA, odA, e, shR_vset hoth, List.take_of_length_le]
    refine flE_ok ?_
    rw [cpuAt_nat hk, hck]
    simp [fillL, Cpu.hrow, Ln.row, hM, List.take_append, show M.length ≠ 8 by omega]
    rw [List.take_of_length_le (by simp)]
  · have hm1 : M.length ≤ 4294967295 := by omega
    have hm2 : ¬ M.length + 1 ≤ L.length := by omega
    have hm3 : L.length - M.length = 0 := by omega
    simp [Try.ntmps19, Try.results19, cSl, cp0, cp1, cn0, cn1, cI, cD, hm8', hm, hm1, hm2, hm3, get3, set3, hk, hgl, hg2, segR, lnA, odA, e, shR_vset hoth, List.take_of_length_le]
    refine flE_ok ?_
    rw [cpuAt_nat hk, hck]
    simp [fillL, Cpu.hrow, Ln.row, hM, show M.length ≠ 8 by omega]
end Go.Proofs.Ytdhpgdfjogklaaa
