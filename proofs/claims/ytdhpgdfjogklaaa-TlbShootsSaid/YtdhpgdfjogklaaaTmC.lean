/- Package tlb: Fill. Package tlb: Serve. Package tlb: Shoot. -/
import Derived.Test.YtdhpgdfjogklaaaTmB
import Derived.Test.YtdhpgdfjogklaaaAiZe
import Derived.Test.YtdhpgdfjogklaaaAiZf
import Derived.Test.YtdhpgdfjogklaaaAiZh
namespace Go.Proofs.Ytdhpgdfjogklaaa
open Go.AI
set_option maxHeartbeats 2000000
set_option maxRecDepth 100000
set_option linter.unusedSimpArgs false
set_option linter.unusedVariables false
attribute [local simp] wpA wpX RunA RunD runF foot footP footB idsA bare apart runL step1 gsel_f gsel_t gsel_s res_same res_and1 res_and2 res_and3 res_and4 res_and5 res_and6 res_false res_true res_v res_ptr res_fptr res_osl res_xsl soft aAppendZ aCap ovlI ovlJ res_fsl res_esl res_agg res_tup res_fn res_junk res_anyb aPick hk imp_left iteV dstOk guardOk astep astepE AI.ev AI.look AI.put envOf aBox cellsOf allOne allOneA oneA Value.oneCell' Value.cells newObj' aFieldAddr aLoad obj readAt thenA blockA condA retA resA tupA view hot hotC hotR depthV cAgg cInt cBool mkAgg allV aAlloc aBuild fillA writeAt aStore isAggA aField idx aIndexAddr aIndex bnd aSlice aExtract aLen aBuiltin aCall isStatic eqAgg eqTy eqC ev_add ev_sub ev_mul ev_quo ev_rem ev_and ev_or ev_xor ev_andNot ev_shl ev_shr ev_eql ev_neq ev_lss ev_leq ev_gtr ev_geq ev_agg w64 wu32 wu8 ev_not ev_neg Cod.plain RCod.plain argM finM cold coldC coldR goInt intDec boolDec aggDec Weaker heapW lowA lowC Again slDec undef aBuildSlice setRows aAppend rowsOf aMakeSlice aClear aCopy softer_self softer_nil valsOf ev_min2 ev_max2 hotR_set hotR_append take_map_set irow_cold irow_mapM irow_mapMc irow_view irow_viewc irow_hotR irow_ren irow_renc irow_low WeakT heapT thOf ren renC AgainT NextF NextT fnDec cFn rNil selfLt natLt0 natLt1 getLastMap frame0 frame1 own0 own1 argG finG tau tauI tauO tauC bareA bareC bareH irow_tau irow_tauc irow_bare irow_flat irow_bareR ownA_nil ownT_nil ownA_c ownT_c ownA_s ownT_s takeMapLen footC plainA noId noIdC cloneF frame0F frame1F insertF replaceI replaceF cellDec rCell fpDec cFp rTwo deleteF allV_oA oneA_oA res_oA RunR RunE runFT footAt hotR_cat tmodN frameN newA newC newH fxSz2 fxBy2 fxAg2 fxZe2 fxSl2 fxAr2 fxPl2 fxSz3 fxBy3 fxAg3 fxZe3 fxSl3 fxAr3 fxPl3 fxSz4 fxBy4 fxAg4 fxZe4 fxSl4 fxAr4 fxPl4 fxSz5 fxBy5 fxAg5 fxZe5 fxSl5 fxAr5 fxPl5 fxSz9 fxBy9 fxAg9 fxZe9 fxSl9 fxAr9 fxPl9 fxSz12 fxBy12 fxAg12 fxZe12 fxSl12 fxAr12 fxPl12 fxSz13 fxBy13 fxAg13 fxZe13 fxSl13 fxAr13 fxFi13x0 fxFi13x1 fxPl13 fxSz21 fxBy21 fxAg21 fxZe21 fxSl21 fxAr21 fxPl21 fxSz22 fxBy22 fxAg22 fxZe22 fxSl22 fxAr22 fxPl22 fxSz23 fxBy23 fxAg23 fxZe23 fxSl23 fxAr23 fxFi23x0 fxFi23x1 fxPl23 fxSz24 fxBy24 fxAg24 fxZe24 fxSl24 fxAr24 fxFi24x0 fxFi24x1 fxPl24 fxSz25 fxBy25 fxAg25 fxZe25 fxSl25 fxAr25 fxPl25 fxSz26 fxBy26 fxAg26 fxZe26 fxSl26 fxAr26 fxPl26 fxSz27 fxBy27 fxAg27 fxZe27 fxSl27 fxAr27 fxFi27x0 fxFi27x1 fxFi27x2 fxFi27x3 fxFi27x4 fxFi27x5 fxFi27x6 fxPl27 fxSz28 fxBy28 fxAg28 fxZe28 fxSl28 fxAr28 fxFi28x0 fxFi28x1 fxFi28x2 fxFi28x3 fxFi28x4 fxFi28x5 fxFi28x6 fxPl28 fxSz29 fxBy29 fxAg29 fxZe29 fxSl29 fxAr29 fxPl29 fxSz44 fxBy44 fxAg44 fxZe44 fxSl44 fxAr44 fxPl44 fxSz45 fxBy45 fxAg45 fxZe45 fxSl45 fxAr45 fxPl45 fxSz52 fxBy52 fxAg52 fxZe52 fxSl52 fxAr52 fxPl52 fxSz54 fxBy54 fxAg54 fxZe54 fxSl54 fxAr54 fxFi54x0 fxFi54x1 fxPl54 fxSz55 fxBy55 fxAg55 fxZe55 fxSl55 fxAr55 fxFi55x0 fxFi55x1 fxPl55 fxSz56 fxBy56 fxAg56 fxZe56 fxSl56 fxAr56 fxPl56 fxSz60 fxBy60 fxAg60 fxZe60 fxSl60 fxAr60 fxPl60 fxSz61 fxBy61 fxAg61 fxZe61 fxSl61 fxAr61 fxPl61 fxSz62 fxBy62 fxAg62 fxZe62 fxSl62 fxAr62 fxFi62x0 fxFi62x1 fxPl62 fxSz63 fxBy63 fxAg63 fxZe63 fxSl63 fxAr63 fxFi63x0 fxFi63x1 fxPl63 fxSz76 fxBy76 fxAg76 fxZe76 fxSl76 fxAr76 fxPl76 fxSz83 fxBy83 fxAg83 fxZe83 fxSl83 fxAr83 fxFi83x0 fxFi83x1 fxFi83x2 fxPl83 fxSz84 fxBy84 fxAg84 fxZe84 fxSl84 fxAr84 fxFi84x0 fxFi84x1 fxFi84x2 fxPl84 fxSz99 fxBy99 fxAg99 fxZe99 fxSl99 fxAr99 fxPl99 fxSz106 fxBy106 fxAg106 fxZe106 fxSl106 fxAr106 fxPl106 fxSz107 fxBy107 fxAg107 fxZe107 fxSl107 fxAr107 fxFi107x0 fxPl107 fxSz113 fxBy113 fxAg113 fxZe113 fxSl113 fxAr113 fxPl113 fxSz118 fxBy118 fxAg118 fxZe118 fxSl118 fxAr118 fxPl118 fxEq28 fxEq55 fxEq56 fxEq84 fxCv2x2 fxCv2x3 fxCv2x5 fxCv2x12 fxCv2x21 fxCv2x29 fxCv2x45 fxCv3x2 fxCv3x3 fxCv3x5 fxCv3x12 fxCv3x21 fxCv3x29 fxCv3x45 fxCv5x2 fxCv5x3 fxCv5x5 fxCv5x12 fxCv5x21 fxCv5x29 fxCv5x45 fxCv12x2 fxCv12x3 fxCv12x5 fxCv12x12 fxCv12x21 fxCv12x29 fxCv12x45 fxCv21x2 fxCv21x3 fxCv21x5 fxCv21x12 fxCv21x21 fxCv21x29 fxCv21x45 fxCv29x2 fxCv29x3 fxCv29x5 fxCv29x12 fxCv29x21 fxCv29x29 fxCv29x45 fxCv45x2 fxCv45x3 fxCv45x5 fxCv45x12 fxCv45x21 fxCv45x29 fxCv45x45 fxEb4 fxNb4 fxLt9 fxLn22 fxNe22 fxNn22 fxOe22 fxOn22 fxXe22 fxXn22 fxLn44 fxNe44 fxNn44 fxOe44 fxOn44 fxXe44 fxXn44 fxLn52 fxNe52 fxNn52 fxOe52 fxOn52 fxXe52 fxXn52 fxLn60 fxNe60 fxNn60 fxOe60 fxOn60 fxXe60 fxXn60 fxLn61 fxNe61 fxNn61 fxOe61 fxOn61 fxXe61 fxXn61 fxLn76 fxNe76 fxNn76 fxOe76 fxOn76 fxXe76 fxXn76 fxFn3 fxFm3 fxFb3 fxFi3 fxFj3 fxFn4 fxFm4 fxFb4 fxFi4 fxFj4 fxFn5 fxFm5 fxFb5 fxFi5 fxFj5 fxFn6 fxFm6 fxFb6 fxFi6 fxFj6 fxFn7 fxFm7 fxFb7 fxFi7 fxFj7 fxFn8 fxFm8 fxFb8 fxFi8 fxFj8 fxFn9 fxFm9 fxFb9 fxFi9 fxFj9 fxFn10 fxFm10 fxFb10 fxFi10 fxFj10 fxFn11 fxFm11 fxFb11 fxFi11 fxFj11 fxFn12 fxFm12 fxFb12 fxFi12 fxFj12 fxFn13 fxFm13 fxFb13 fxFi13 fxFj13 fxFn14 fxFm14 fxFb14 fxFi14 fxFj14 fxFn15 fxFm15 fxFb15 fxFi15 fxFj15 fxFn16 fxFm16 fxFb16 fxFi16 fxFj16 fxFn17 fxFm17 fxFb17 fxFi17 fxFj17 fxFn18 fxFm18 fxFb18 fxFi18 fxFj18 fxFn19 fxFm19 fxFb19 fxFi19 fxFj19 fxFn20 fxFm20 fxFb20 fxFi20 fxFj20 fxFn21 fxFm21 fxFb21 fxFi21 fxFj21 fxFn22 fxFm22 fxFb22 fxFi22 fxFj22 fxFn23 fxFm23 fxFb23 fxFi23 fxFj23 fxFn24 fxFm24 fxFb24 fxFi24 fxFj24 fxFn25 fxFm25 fxFb25 fxFi25 fxFj25 fxFn26 fxFm26 fxFb26 fxFi26 fxFj26 fxFn27 fxFm27 fxFb27 fxFi27 fxFj27 fxFn28 fxFm28 fxFb28 fxFi28 fxFj28 fxFn29 fxFm29 fxFb29 fxFi29 fxFj29 fxFn30 fxFm30 fxFb30 fxFi30 fxFj30 fxFn31 fxFm31 fxFb31 fxFi31 fxFj31 fxFn32 fxFm32 fxFb32 fxFi32 fxFj32 fxFn33 fxFm33 fxFb33 fxFi33 fxFj33 fxFn34 fxFm34 fxFb34 fxFi34 fxFj34 fxFn35 fxFm35 fxFb35 fxFi35 fxFj35 fxFn36 fxFm36 fxFb36 fxFi36 fxFj36 fxFn37 fxFm37 fxFb37 fxFi37 fxFj37 fxFn38 fxFm38 fxFb38 fxFi38 fxFj38 fxFn39 fxFm39 fxFb39 fxFi39 fxFj39 fxFn40 fxFm40 fxFb40 fxFi40 fxFj40 fxFn41 fxFm41 fxFb41 fxFi41 fxFj41 fxFn42 fxFm42 fxFb42 fxFi42 fxFj42 fxFn43 fxFm43 fxFb43 fxFi43 fxFj43 fxFn44 fxFm44 fxFb44 fxFi44 fxFj44 fxFn45 fxFm45 fxFb45 fxFi45 fxFj45 fxFn46 fxFm46 fxFb46 fxFi46 fxFj46 fxFn47 fxFm47 fxFb47 fxFi47 fxFj47 fxFn48 fxFm48 fxFb48 fxFi48 fxFj48 fxFn49 fxFm49 fxFb49 fxFi49 fxFj49 fxFn50 fxFm50 fxFb50 fxFi50 fxFj50 fxFn51 fxFm51 fxFb51 fxFi51 fxFj51 fxFn52 fxFm52 fxFb52 fxFi52 fxFj52 fxFn53 fxFm53 fxFb53 fxFi53 fxFj53 fxFn54 fxFm54 fxFb54 fxFi54 fxFj54 fxFn55 fxFm55 fxFb55 fxFi55 fxFj55 fxFn56 fxFm56 fxFb56 fxFi56 fxFj56 fxFn57 fxFm57 fxFb57 fxFi57 fxFj57 fxFn58 fxFm58 fxFb58 fxFi58 fxFj58 fxFn59 fxFm59 fxFb59 fxFi59 fxFj59 fxFn60 fxFm60 fxFb60 fxFi60 fxFj60
attribute [local simp] Ln.eta Ln.cold Ln.mapM Ln.mapMc Ln.view Ln.viewc Ln.hotR Ln.ren Ln.renc Ln.low Ln.tau Ln.tauc Ln.bare Ln.flat Ln.flat1 Ln.mapMt Ln.mapMd Ln.coldt Ln.coldd Ln.hotRt Ln.hotRd
attribute [local simp] Od.eta Od.cold Od.mapM Od.mapMc Od.view Od.viewc Od.hotR Od.ren Od.renc Od.low Od.tau Od.tauc Od.bare Od.flat Od.flat1 Od.mapMt Od.mapMd Od.coldt Od.coldd Od.hotRt Od.hotRd
attribute [local simp] Cpu.eta Cpu.dec_row Cpu.dec_hrow Cpu.cold Cpu.hcold Cpu.mapM Cpu.mapMc Cpu.hmapM Cpu.hmapMc Cpu.view Cpu.viewc Cpu.hview Cpu.hviewc Cpu.hotR Cpu.ren Cpu.renc Cpu.low Cpu.hlow
def mdL (j : Nat) : Mode := fun i => (i == j, false)
def flE : Except Int (List Cpu) → AVal
  | .ok l => .tup [.fsl true 2 (l.map Cpu.hrow), .v (.int .i64 0)]
  | .error e => .v (.tuple #[.slice none 0 0, .int .i64 e])
def fillL (L : List Ln) (x : Ln) : List Ln :=
  let M := L.filter (fun y => !(y.at x.space x.page))
  (if M.length = 8 then M.drop 1 else M) ++ [x]
def tlFill (l : List Cpu) (cpu s p w : Int) : Except Int (List Cpu) :=
  if tlChk l cpu = 0 then (if okSP s p = true then .ok (l.set cpu.toNat ⟨fillL (cpuAt l cpu).lines ⟨s, p, w⟩, (cpuAt l cpu).orders⟩) else .error 1) else .error (tlChk l cpu)
theorem shR_get {md : Mode} {l : List Cpu} {c k : Nat} (hk : k < l.length) : (shR md 0 c l)[k]? = some (segR (md k) (c + (shT md 0 (l.take k)).length) l[k]) := by
  have e : l = l.take k ++ [l[k]] ++ l.drop (k + 1) := by
    rw [← List.take_succ_eq_append_getElem hk, List.take_append_drop]
  have hgen : ∀ (i c : Nat) (l : List Cpu) (k : Nat) (hk : k < l.length), (shR md i c l)[k]? = some (segR (md (i + k)) (c + (shT md i (l.take k)).length) l[k]) := by
    intro i c l
    induction l generalizing i c with
    | nil => intro k hk; simp at hk
    | cons x l ih =>
      intro k hk
      cases k with
      | zero => simp [shR, shT]
      | succ k =>
        simp only [shR, List.getElem?_cons_succ, List.getElem_cons_succ, List.take_succ_cons, shT, List.length_append]
        rw [ih (i + 1) _ k (by simpa using hk)]
        rw [show i + 1 + k = i + (k + 1) by omega, Nat.add_assoc]
  simpa using hgen 0 c l k hk
theorem shT_split {md : Mode} {l : List Cpu} {k : Nat} (hk : k < l.length) : shT md 0 l = shT md 0 (l.take k) ++ (lnT (md k).1 l[k].lines ++ (odT (md k).2 l[k].orders ++ shT md (k + 1) (l.drop (k + 1)))) := by
  have hgen : ∀ (i : Nat) (l : List Cpu) (k : Nat) (hk : k < l.length), shT md i l = shT md i (l.take k) ++ (lnT (md (i + k)).1 l[k].lines ++ (odT (md (i + k)).2 l[k].orders ++ shT md (i + k + 1) (l.drop (k + 1)))) := by
    intro i l
    induction l generalizing i with
    | nil => intro k hk; simp at hk
    | cons x l ih =>
      intro k hk
      cases k with
      | zero => simp [shT, segT]
      | succ k =>
        simp only [shT, List.getElem_cons_succ, List.take_succ_cons, List.drop_succ_cons, List.append_assoc]
        rw [ih (i + 1) k (by simpa using hk), show i + 1 + k = i + (k + 1) by omega]
  simpa using hgen 0 l k hk
theorem segR_view {H : Heap} {d c : Nat} {x : Cpu} : List.map (view H (d + 1)) (segR (false, false) c x) = x.hrow := by
  simp [segR, lnA, odA, Cpu.hrow]
theorem shR_vset {md : Mode} {H : Heap} {d i c k : Nat} {l : List Cpu} {r : Row} (h : ∀ j, i + j ≠ i + k → md (i + j) = (false, false)) : (List.map (fun r => List.map (view H (d + 1)) r) (shR md i c l)).set k r = (l.map Cpu.hrow).set k r := by
  induction l generalizing i c k with
  | nil => simp [shR]
  | cons x l ih =>
    cases k with
    | zero =>
      simp only [shR, List.map_cons, List.set_cons_zero, List.cons.injEq, true_and]
      have h2 := ih (i := i + 1) (c := c + (segT (md i) x).length) (k := l.length) (fun j hj => by have := h (j + 1) (by omega); rwa [show i + (j + 1) = i + 1 + j by omega] at this)
      rwa [List.set_eq_of_length_le (by simp [shR_len]), List.set_eq_of_length_le (by simp)] at h2
    | succ k =>
      simp only [shR, List.map_cons, List.set_cons_succ]
      rw [ih (fun j hj => by have := h (j + 1) (by omega); rwa [show i + (j + 1) = i + 1 + j by omega] at this)]
      have h0 := h 0 (by omega)
      rw [Nat.add_zero] at h0
      rw [h0, segR_view]
theorem get3 {a b c x : Option (Nat × List Row)} {A B : Heap} : (a :: b :: c :: (A ++ (x :: B)))[3 + A.length]? = some x := by
  rw [Nat.add_comm]; simp
theorem set3 {a b c x y : Option (Nat × List Row)} {A B : Heap} : (a :: b :: c :: (A ++ (x :: B))).set (3 + A.length) y = a :: b :: c :: (A ++ (y :: B)) := by
  rw [Nat.add_comm]; simp
theorem flE_ok {l : List Cpu} {k : Nat} {c : Cpu} {R : Row} (hR : R = c.hrow) : AVal.tup [.fsl true 2 ((l.map Cpu.hrow).set k R), .v (.int .i64 0)] = flE (.ok (l.set k c)) ∧ hot (flE (.ok (l.set k c))) = true := by
  subst hR
  refine ⟨?_, ?_⟩
  · simp [flE]
  · simp [flE, hot, hotC]
    rw [← List.map_set]
    exact Cpu.hotR _
theorem tlFill_pure : PureOk Try.prog 19 (argM (cSl rCpu) fun l => argM (cInt .i64) fun cpu => argM (cInt .i64) fun s => argM (cInt .i64) fun p => argM (cInt .u32) fun w => finM (some (flE (tlFill l cpu s p w)))) := by
  refine pure5 Try.func19 rfl ?_
  rintro l cpu s p w r hr
  simp only [Option.some.injEq] at hr
  subst hr
  refine body_gen ((((noOrc_ok.withP tlChk_pure).withP tlRight_pure).withIF (cpy_inl (mdL cpu.toNat)) frameN_loc).withI fillDel_inl) fxMix (by kernel_rfl) (by simp [Try.ntmps19]) ?_
  intro C cP cI cN cD cF cA
  have cp0 := orcP tlChk_pure (C := C) (by rw [cP]; rfl)
  have cp1 := orcP tlRight_pure (C := C) (by rw [cP]; rfl)
  have cn0 := orcI (cpy_inl (mdL cpu.toNat)) (C := C) (by rw [cN]; rfl)
  have cn1 := orcI fillDel_inl (C := C) (by rw [cN]; rfl)
  replace cI := fun g => congrFun cI g
  simp only [Orc.withP, Orc.withI, Orc.withF, Orc.withD, Orc.withA, noOrc] at cI
  replace cD : C.dyn = fun _ => [] := cD
  clear cP cN cF cA
  unfold tlFill
  by_cases h0 : tlChk l cpu = 0
  case neg => simp [Try.ntmps19, Try.results19, cSl, cp0, cp1, cn0, cn1, cI, cD, rCpu, cpuDec, Cpu.row, rLn, lnDec, rOd, odDec, h0, flE]
  by_cases h1 : okSP s p = true
  case neg =>
    simp only [Bool.not_eq_true] at h1
    simp [Try.ntmps19, Try.results19, cSl, cp0, cp1, cn0, cn1, cI, cD, rCpu, cpuDec, Cpu.row, rLn, lnDec, rOd, odDec, h0, h1, flE]
  obtain ⟨g0, g1, g2⟩ := tlChk_iff.1 h0
  obtain ⟨k, rfl⟩ := Int.eq_ofNat_of_zero_le g1
  have hk : k < l.length := by omega
  obtain ⟨l1, l2, l3⟩ := tlCheck_iff.1 g0
  have hcp : (∀ c ∈ l, c.lines.length ≤ 8 ∧ c.orders.length ≤ 4) = True := eq_true fun c hc => cpuE_len (l3 c hc)
  have hg := shR_get (md := mdL k) (c := 3) hk
  have hgl := shR_len (mdL k) 0 3 l
  have hsp := shT_split (md := mdL k) hk
  have hoth : ∀ j, 0 + j ≠ 0 + k → mdL k (0 + j) = (false, false) := by intro j hj; simp [mdL]; omega
  have hmd : mdL k k = (true, false) := by simp [mdL]
  rw [hmd] at hg hsp
  generalize shT (mdL k) 0 (l.take k) = A at hg hsp
  generalize shT (mdL k) (k + 1) (l.drop (k + 1)) = B at hsp
  generalize hck : l[k] = c at *
  obtain ⟨L, O⟩ := c
  have hg2 : (shR (mdL k) 0 3 l)[k]'(by rw [hgl]; exact hk) = segR (true, false) (3 + A.length) ⟨L, O⟩ := by
    rw [List.getElem?_eq_getElem (by rw [hgl]; exact hk)] at hg
    exact Option.some.inj hg
  simp [Try.ntmps19, Try.results19, cSl, cp0, cp1, cn0, cn1, cI, cD, rCpu, cpuDec, Cpu.row, rLn, lnDec, rOd, odDec, h0, h1, l1, l2, hcp, shR_tau, shT_tau, shR_new, shT_new]
  by_cases e : L = []
  · subst e
    rw [hsp]
    simp [Try.ntmps19, Try.results19, cSl, cp0, cp1, cn0, cn1, cI, cD, hk, hgl, hg2, segR, lnA, odA, lnT, rCapL, rI, irow, irowDec, rLn, Ln.row, lnDec, shR_vset hoth, List.take_of_length_le]
    refine flE_ok ?_
    rw [cpuAt_nat hk, hck]
    simp [fillL, Cpu.hrow, Ln.row]
  have hpos : 0 < L.length := List.length_pos_iff.2 e
  have hL8 : L.length ≤ 8 := (cpuE_len (l3 ⟨L, O⟩ (hck ▸ List.getElem_mem hk))).1
  have hL9 : L.length ≤ 1048576 := by omega
  rw [hsp]
  simp [Try.ntmps19, Try.results19, cSl, cp0, cp1, cn0, cn1, cI, cD, hpos, hL9, hk, hgl, hg2, segR, lnA, odA, lnT, e, get3, set3, rCapL, rI, irow, irowDec, rLn, Ln.row, lnDec]
  have hML : (L.filter (fun x => !x.at s p)).length ≤ L.length := List.length_filter_le _ _
  generalize hM : L.filter (fun x => !x.at s p) = M at hML ⊢
  by_cases hm8 : M.length = 8
  · have hm8' : (M.length : Int) = 8 := by omega
    have hL88 : L.length = 8 := by omega
    have hv1 : ∀ x ∈ (M.map Ln.row).tail, vRow x = true := by
      intro x hx
      obtain ⟨y, _, rfl⟩ := List.mem_map.1 (List.mem_of_mem_tail hx)
      rfl
    have hv1' := eq_true hv1
    have hv2 : vRow [.v (.int .i64 s), .v (.int .i64 p), .v (.int .u32 w)] = true := rfl
    simp [Try.ntmps19, Try.results19, cSl, cp0, cp1, cn0, cn1, cI, cD, hm8, hm8', hL88, get3, set3, hk, hgl, hg2, segR, lnA, odA, e, hv1', hv2, shR_vset hoth, List.take_of_length_le]
    refine flE_ok ?_
    rw [cpuAt_nat hk, hck]
    simp [fillL, Cpu.hrow, Ln.row, hM, hm8]
  have hm8' : ¬ (M.length : Int) = 8 := by omega
  by_cases hm : M.length < L.length
  · have hm1 : M.length ≤ 4294967295 := by omega
    have hm2 : M.length + 1 ≤ L.length := by omega
    simp [Try.ntmps19, Try.results19, cSl, cp0, cp1, cn0, cn1, cI, cD, hm8', hm, hm1, hm2, get3, set3, hk, hgl, hg2, segR, lnA, odA, e, shR_vset hoth, List.take_of_length_le]
    refine flE_ok ?_
    rw [cpuAt_nat hk, hck]
    simp [fillL, Cpu.hrow, Ln.row, hM, List.take_append, show M.length ≠ 8 by omega]
    rw [List.take_of_length_le (by simp)]
  · have hm1 : M.length ≤ 4294967295 := by omega
    have hm2 : ¬ M.length + 1 ≤ L.length := by omega
    have hm3 : L.length - M.length = 0 := by omega
    simp [Try.ntmps19, Try.results19, cSl, cp0, cp1, cn0, cn1, cI, cD, hm8', hm, hm1, hm2, hm3, get3, set3, hk, hgl, hg2, segR, lnA, odA, e, shR_vset hoth, List.take_of_length_le]
    refine flE_ok ?_
    rw [cpuAt_nat hk, hck]
    simp [fillL, Cpu.hrow, Ln.row, hM, show M.length ≠ 8 by omega]
end Go.Proofs.Ytdhpgdfjogklaaa
namespace Go.Proofs.Ytdhpgdfjogklaaa
open Go.AI
set_option maxHeartbeats 2000000
set_option maxRecDepth 100000
set_option linter.unusedSimpArgs false
set_option linter.unusedVariables false
attribute [local simp] wpA wpX RunA RunD runF foot footP footB idsA bare apart runL step1 gsel_f gsel_t gsel_s res_same res_and1 res_and2 res_and3 res_and4 res_and5 res_and6 res_false res_true res_v res_ptr res_fptr res_osl res_xsl soft aAppendZ aCap ovlI ovlJ res_fsl res_esl res_agg res_tup res_fn res_junk res_anyb aPick hk imp_left iteV dstOk guardOk astep astepE AI.ev AI.look AI.put envOf aBox cellsOf allOne allOneA oneA Value.oneCell' Value.cells newObj' aFieldAddr aLoad obj readAt thenA blockA condA retA resA tupA view hot hotC hotR depthV cAgg cInt cBool mkAgg allV aAlloc aBuild fillA writeAt aStore isAggA aField idx aIndexAddr aIndex bnd aSlice aExtract aLen aBuiltin aCall isStatic eqAgg eqTy eqC ev_add ev_sub ev_mul ev_quo ev_rem ev_and ev_or ev_xor ev_andNot ev_shl ev_shr ev_eql ev_neq ev_lss ev_leq ev_gtr ev_geq ev_agg w64 wu32 wu8 ev_not ev_neg Cod.plain RCod.plain argM finM cold coldC coldR goInt intDec boolDec aggDec Weaker heapW lowA lowC Again slDec undef aBuildSlice setRows aAppend rowsOf aMakeSlice aClear aCopy softer_self softer_nil valsOf ev_min2 ev_max2 hotR_set hotR_append take_map_set irow_cold irow_mapM irow_mapMc irow_view irow_viewc irow_hotR irow_ren irow_renc irow_low WeakT heapT thOf ren renC AgainT NextF NextT fnDec cFn rNil selfLt natLt0 natLt1 getLastMap frame0 frame1 own0 own1 argG finG tau tauI tauO tauC bareA bareC bareH irow_tau irow_tauc irow_bare irow_flat irow_bareR ownA_nil ownT_nil ownA_c ownT_c ownA_s ownT_s takeMapLen footC plainA noId noIdC cloneF frame0F frame1F insertF replaceI replaceF cellDec rCell fpDec cFp rTwo deleteF allV_oA oneA_oA res_oA RunR RunE runFT footAt hotR_cat tmodN frameN newA newC newH fxSz2 fxBy2 fxAg2 fxZe2 fxSl2 fxAr2 fxPl2 fxSz3 fxBy3 fxAg3 fxZe3 fxSl3 fxAr3 fxPl3 fxSz4 fxBy4 fxAg4 fxZe4 fxSl4 fxAr4 fxPl4 fxSz5 fxBy5 fxAg5 fxZe5 fxSl5 fxAr5 fxPl5 fxSz9 fxBy9 fxAg9 fxZe9 fxSl9 fxAr9 fxPl9 fxSz12 fxBy12 fxAg12 fxZe12 fxSl12 fxAr12 fxPl12 fxSz13 fxBy13 fxAg13 fxZe13 fxSl13 fxAr13 fxFi13x0 fxFi13x1 fxPl13 fxSz21 fxBy21 fxAg21 fxZe21 fxSl21 fxAr21 fxPl21 fxSz22 fxBy22 fxAg22 fxZe22 fxSl22 fxAr22 fxPl22 fxSz23 fxBy23 fxAg23 fxZe23 fxSl23 fxAr23 fxFi23x0 fxFi23x1 fxPl23 fxSz24 fxBy24 fxAg24 fxZe24 fxSl24 fxAr24 fxFi24x0 fxFi24x1 fxPl24 fxSz25 fxBy25 fxAg25 fxZe25 fxSl25 fxAr25 fxPl25 fxSz26 fxBy26 fxAg26 fxZe26 fxSl26 fxAr26 fxPl26 fxSz27 fxBy27 fxAg27 fxZe27 fxSl27 fxAr27 fxFi27x0 fxFi27x1 fxFi27x2 fxFi27x3 fxFi27x4 fxFi27x5 fxFi27x6 fxPl27 fxSz28 fxBy28 fxAg28 fxZe28 fxSl28 fxAr28 fxFi28x0 fxFi28x1 fxFi28x2 fxFi28x3 fxFi28x4 fxFi28x5 fxFi28x6 fxPl28 fxSz29 fxBy29 fxAg29 fxZe29 fxSl29 fxAr29 fxPl29 fxSz44 fxBy44 fxAg44 fxZe44 fxSl44 fxAr44 fxPl44 fxSz45 fxBy45 fxAg45 fxZe45 fxSl45 fxAr45 fxPl45 fxSz52 fxBy52 fxAg52 fxZe52 fxSl52 fxAr52 fxPl52 fxSz54 fxBy54 fxAg54 fxZe54 fxSl54 fxAr54 fxFi54x0 fxFi54x1 fxPl54 fxSz55 fxBy55 fxAg55 fxZe55 fxSl55 fxAr55 fxFi55x0 fxFi55x1 fxPl55 fxSz56 fxBy56 fxAg56 fxZe56 fxSl56 fxAr56 fxPl56 fxSz60 fxBy60 fxAg60 fxZe60 fxSl60 fxAr60 fxPl60 fxSz61 fxBy61 fxAg61 fxZe61 fxSl61 fxAr61 fxPl61 fxSz62 fxBy62 fxAg62 fxZe62 fxSl62 fxAr62 fxFi62x0 fxFi62x1 fxPl62 fxSz63 fxBy63 fxAg63 fxZe63 fxSl63 fxAr63 fxFi63x0 fxFi63x1 fxPl63 fxSz76 fxBy76 fxAg76 fxZe76 fxSl76 fxAr76 fxPl76 fxSz83 fxBy83 fxAg83 fxZe83 fxSl83 fxAr83 fxFi83x0 fxFi83x1 fxFi83x2 fxPl83 fxSz84 fxBy84 fxAg84 fxZe84 fxSl84 fxAr84 fxFi84x0 fxFi84x1 fxFi84x2 fxPl84 fxSz99 fxBy99 fxAg99 fxZe99 fxSl99 fxAr99 fxPl99 fxSz106 fxBy106 fxAg106 fxZe106 fxSl106 fxAr106 fxPl106 fxSz107 fxBy107 fxAg107 fxZe107 fxSl107 fxAr107 fxFi107x0 fxPl107 fxSz113 fxBy113 fxAg113 fxZe113 fxSl113 fxAr113 fxPl113 fxSz118 fxBy118 fxAg118 fxZe118 fxSl118 fxAr118 fxPl118 fxEq28 fxEq55 fxEq56 fxEq84 fxCv2x2 fxCv2x3 fxCv2x5 fxCv2x12 fxCv2x21 fxCv2x29 fxCv2x45 fxCv3x2 fxCv3x3 fxCv3x5 fxCv3x12 fxCv3x21 fxCv3x29 fxCv3x45 fxCv5x2 fxCv5x3 fxCv5x5 fxCv5x12 fxCv5x21 fxCv5x29 fxCv5x45 fxCv12x2 fxCv12x3 fxCv12x5 fxCv12x12 fxCv12x21 fxCv12x29 fxCv12x45 fxCv21x2 fxCv21x3 fxCv21x5 fxCv21x12 fxCv21x21 fxCv21x29 fxCv21x45 fxCv29x2 fxCv29x3 fxCv29x5 fxCv29x12 fxCv29x21 fxCv29x29 fxCv29x45 fxCv45x2 fxCv45x3 fxCv45x5 fxCv45x12 fxCv45x21 fxCv45x29 fxCv45x45 fxEb4 fxNb4 fxLt9 fxLn22 fxNe22 fxNn22 fxOe22 fxOn22 fxXe22 fxXn22 fxLn44 fxNe44 fxNn44 fxOe44 fxOn44 fxXe44 fxXn44 fxLn52 fxNe52 fxNn52 fxOe52 fxOn52 fxXe52 fxXn52 fxLn60 fxNe60 fxNn60 fxOe60 fxOn60 fxXe60 fxXn60 fxLn61 fxNe61 fxNn61 fxOe61 fxOn61 fxXe61 fxXn61 fxLn76 fxNe76 fxNn76 fxOe76 fxOn76 fxXe76 fxXn76 fxFn3 fxFm3 fxFb3 fxFi3 fxFj3 fxFn4 fxFm4 fxFb4 fxFi4 fxFj4 fxFn5 fxFm5 fxFb5 fxFi5 fxFj5 fxFn6 fxFm6 fxFb6 fxFi6 fxFj6 fxFn7 fxFm7 fxFb7 fxFi7 fxFj7 fxFn8 fxFm8 fxFb8 fxFi8 fxFj8 fxFn9 fxFm9 fxFb9 fxFi9 fxFj9 fxFn10 fxFm10 fxFb10 fxFi10 fxFj10 fxFn11 fxFm11 fxFb11 fxFi11 fxFj11 fxFn12 fxFm12 fxFb12 fxFi12 fxFj12 fxFn13 fxFm13 fxFb13 fxFi13 fxFj13 fxFn14 fxFm14 fxFb14 fxFi14 fxFj14 fxFn15 fxFm15 fxFb15 fxFi15 fxFj15 fxFn16 fxFm16 fxFb16 fxFi16 fxFj16 fxFn17 fxFm17 fxFb17 fxFi17 fxFj17 fxFn18 fxFm18 fxFb18 fxFi18 fxFj18 fxFn19 fxFm19 fxFb19 fxFi19 fxFj19 fxFn20 fxFm20 fxFb20 fxFi20 fxFj20 fxFn21 fxFm21 fxFb21 fxFi21 fxFj21 fxFn22 fxFm22 fxFb22 fxFi22 fxFj22 fxFn23 fxFm23 fxFb23 fxFi23 fxFj23 fxFn24 fxFm24 fxFb24 fxFi24 fxFj24 fxFn25 fxFm25 fxFb25 fxFi25 fxFj25 fxFn26 fxFm26 fxFb26 fxFi26 fxFj26 fxFn27 fxFm27 fxFb27 fxFi27 fxFj27 fxFn28 fxFm28 fxFb28 fxFi28 fxFj28 fxFn29 fxFm29 fxFb29 fxFi29 fxFj29 fxFn30 fxFm30 fxFb30 fxFi30 fxFj30 fxFn31 fxFm31 fxFb31 fxFi31 fxFj31 fxFn32 fxFm32 fxFb32 fxFi32 fxFj32 fxFn33 fxFm33 fxFb33 fxFi33 fxFj33 fxFn34 fxFm34 fxFb34 fxFi34 fxFj34 fxFn35 fxFm35 fxFb35 fxFi35 fxFj35 fxFn36 fxFm36 fxFb36 fxFi36 fxFj36 fxFn37 fxFm37 fxFb37 fxFi37 fxFj37 fxFn38 fxFm38 fxFb38 fxFi38 fxFj38 fxFn39 fxFm39 fxFb39 fxFi39 fxFj39 fxFn40 fxFm40 fxFb40 fxFi40 fxFj40 fxFn41 fxFm41 fxFb41 fxFi41 fxFj41 fxFn42 fxFm42 fxFb42 fxFi42 fxFj42 fxFn43 fxFm43 fxFb43 fxFi43 fxFj43 fxFn44 fxFm44 fxFb44 fxFi44 fxFj44 fxFn45 fxFm45 fxFb45 fxFi45 fxFj45 fxFn46 fxFm46 fxFb46 fxFi46 fxFj46 fxFn47 fxFm47 fxFb47 fxFi47 fxFj47 fxFn48 fxFm48 fxFb48 fxFi48 fxFj48 fxFn49 fxFm49 fxFb49 fxFi49 fxFj49 fxFn50 fxFm50 fxFb50 fxFi50 fxFj50 fxFn51 fxFm51 fxFb51 fxFi51 fxFj51 fxFn52 fxFm52 fxFb52 fxFi52 fxFj52 fxFn53 fxFm53 fxFb53 fxFi53 fxFj53 fxFn54 fxFm54 fxFb54 fxFi54 fxFj54 fxFn55 fxFm55 fxFb55 fxFi55 fxFj55 fxFn56 fxFm56 fxFb56 fxFi56 fxFj56 fxFn57 fxFm57 fxFb57 fxFi57 fxFj57 fxFn58 fxFm58 fxFb58 fxFi58 fxFj58 fxFn59 fxFm59 fxFb59 fxFi59 fxFj59 fxFn60 fxFm60 fxFb60 fxFi60 fxFj60
attribute [local simp] Ln.eta Ln.cold Ln.mapM Ln.mapMc Ln.view Ln.viewc Ln.hotR Ln.ren Ln.renc Ln.low Ln.tau Ln.tauc Ln.bare Ln.flat Ln.flat1 Ln.mapMt Ln.mapMd Ln.coldt Ln.coldd Ln.hotRt Ln.hotRd
attribute [local simp] Od.eta Od.cold Od.mapM Od.mapMc Od.view Od.viewc Od.hotR Od.ren Od.renc Od.low Od.tau Od.tauc Od.bare Od.flat Od.flat1 Od.mapMt Od.mapMd Od.coldt Od.coldd Od.hotRt Od.hotRd
attribute [local simp] Cpu.eta Cpu.dec_row Cpu.dec_hrow Cpu.cold Cpu.hcold Cpu.mapM Cpu.mapMc Cpu.hmapM Cpu.hmapMc Cpu.view Cpu.viewc Cpu.hview Cpu.hviewc Cpu.hotR Cpu.ren Cpu.renc Cpu.low Cpu.hlow
theorem odDel : InlOk Try.prog 58 (deleteI 2) := by
  refine delete_of (z := [.v (.int .i64 0), .v (.int .i64 0)]) Try.func58 rfl (by simp [Try.ntmps58]) ?_
  intro H id i rows h1 h2 h3 h4
  refine wpA_sound noOrc_ok fxMix _ _ _ _ (by kernel_rfl) ?_
  have h1' := obj_get h1
  have g1 := (List.getElem?_eq_some_iff.1 h1').2
  have c1 : (i : Int) + 1 ≤ rows.length := by omega
  have c2 : 0 ≤ (i : Int) + 1 := by omega
  have c3 : (i : Int) ≤ i + 1 := by omega
  have c4 : i ≤ rows.length := by omega
  have c5 : i + 1 ≤ rows.length := by omega
  have c6 : i + 1 + (rows.length - (i + 1)) ≤ rows.length := by omega
  have c7 : i + (rows.length - (i + 1)) ≤ rows.length := by omega
  have c8 : i + (rows.length - (i + 1)) = rows.length - 1 := by omega
  have c9 : rows.length - 1 ≤ rows.length := by omega
  have d1 : ¬ ((i : Int) = i + 1) := by omega
  have d2 : List.take (rows.length - (i + 1)) (List.drop (i + 1) rows) = List.drop (i + 1) rows := List.take_of_length_le (by simp)
  have d3 : rows.length - (rows.length - 1) = 1 := by omega
  have d4 : (rows.length - 1) + 1 = rows.length := by omega
  have d5 : ¬ rows.length = i := by omega
  have d6 : ¬ rows.length = 0 := by omega
  have d7 : rows.length ≤ 4294967296 := by omega
  have d8 : i + (rows.length - (i + 1)) ≤ 4294967296 := by omega
  have f1 : rows.length ≤ 4294967297 := by omega
  have f2 : rows.length ≤ i + (rows.length - (i + 1) + 1) := by omega
  have d9 : ∀ X : List Row, List.take (rows.length - 1) (List.take i rows ++ (List.drop (i + 1) rows ++ X)) = List.take i rows ++ List.drop (i + 1) rows := by
    intro X
    rw [← List.append_assoc, List.take_append_of_le_length (by simp; omega), List.take_of_length_le (by simp; omega)]
  have e1 : List.drop rows.length (List.take i rows ++ (List.drop (i + 1) rows ++ List.drop (rows.length - 1) rows)) = [] := List.drop_eq_nil_of_le (by simp; omega)
  have e2 : rows.length - 1 ≤ i + (rows.length - (i + 1) + 1) := by omega
  have e3 : min i rows.length = i := by omega
  have e4 : ((rows.length - 1 : Nat) : Int) ≤ rows.length := by omega
  simp [Try.ntmps58, Try.results58, noOrc, h1', h2, h3, g1, c1, c2, c3, c4, c5, c6, c7, c8, c9, d1, d2, d3, d4, d5, d6, d7, d8, d9, e1, e2, e3, e4, f1, f2]
def mdS (j : Nat) : Mode := fun i => (i == j, i == j)
def srvE (l : List Cpu) (cpu : Int) : AVal :=
  if tlChk l cpu = 0 then .tup [.fsl true 2 ((l.set cpu.toNat (srv1 (cpuAt l cpu))).map Cpu.hrow), .v (.bool (!(cpuAt l cpu).orders.isEmpty)), .v (.int .i64 0)]
  else .v (.tuple #[.slice none 0 0, .bool false, .int .i64 (tlChk l cpu)])
theorem get1 {a x : Option (Nat × List Row)} {A B : Heap} : (a :: (A ++ (x :: B)))[1 + A.length]? = some x := by
  rw [Nat.add_comm]; simp
theorem set1 {a x y : Option (Nat × List Row)} {A B : Heap} : (a :: (A ++ (x :: B))).set (1 + A.length) y = a :: (A ++ (y :: B)) := by
  rw [Nat.add_comm]; simp
theorem get1' {a x z : Option (Nat × List Row)} {A B : Heap} : (a :: (A ++ (z :: x :: B)))[1 + A.length + 1]? = some x := by
  rw [Nat.add_comm 1]; simp
theorem set1' {a x y z : Option (Nat × List Row)} {A B : Heap} : (a :: (A ++ (z :: x :: B))).set (1 + A.length + 1) y = a :: (A ++ (z :: y :: B)) := by
  rw [Nat.add_comm 1]; simp
theorem get0' {x z : Option (Nat × List Row)} {A B : Heap} : (A ++ (z :: x :: B))[1 + A.length]? = some x := by
  rw [Nat.add_comm 1]; simp
theorem set0' {x y z : Option (Nat × List Row)} {A B : Heap} : (A ++ (z :: x :: B)).set (1 + A.length) y = A ++ (z :: y :: B) := by
  rw [Nat.add_comm 1]; simp
/-- the processors, one of them known a little less -/
theorem sof_set {l : List Cpu} {k : Nat} {c : Cpu} {a b : AVal} (ha : Sof (.fsl true 3 (c.lines.map Ln.row)) a) (hb : Sof (.fsl true 2 (c.orders.map Od.row)) b) :
    Sof (.fsl true 2 ((l.set k c).map Cpu.hrow)) (.fsl true 2 ((l.map Cpu.hrow).set k [a, b])) := by
  refine .fsl (by simp) (fun r hr => by obtain ⟨x, _, rfl⟩ := List.mem_map.1 hr; rfl) ?_
  intro i r x hr hx j u v hu hv
  by_cases e : i = k
  · subst e
    have hi : i < l.length := by have := (List.getElem?_eq_some_iff.1 hx).1; simpa using this
    rw [List.getElem?_map, List.getElem?_set_self hi] at hr
    rw [List.getElem?_set_self (by simpa using hi)] at hx
    simp only [Option.map_some, Option.some.injEq] at hr hx
    subst hr; subst hx
    match j with
    | 0 => simp [Cpu.hrow] at hu hv; subst hu; subst hv; exact ha
    | 1 => simp [Cpu.hrow] at hu hv; subst hu; subst hv; exact hb
    | j + 2 => simp at hv
  · rw [List.getElem?_map, List.getElem?_set_ne (fun h => e h.symm)] at hr
    rw [List.getElem?_set_ne (fun h => e h.symm), List.getElem?_map] at hx
    rw [hr] at hx
    cases hx
    rw [hu] at hv
    cases hv
    exact .refl _
theorem vset_self {md : Mode} {H : Heap} {d c k : Nat} {l : List Cpu} {r : Row} (h : ∀ j, 0 + j ≠ 0 + k → md (0 + j) = (false, false)) (hk : k < (shR md 0 c l).length) (hv : List.map (view H (d + 1)) (shR md 0 c l)[k] = r) :
    List.map (fun r => List.map (view H (d + 1)) r) (shR md 0 c l) = (l.map Cpu.hrow).set k r := by
  subst hv
  rw [← shR_vset h (H := H) (d := d) (c := c), ← List.getElem_map (f := fun r => List.map (view H (d + 1)) r) (h := by simpa using hk), List.set_getElem_self]
theorem shows_cpus {H : Heap} {rows : List Row} {l : List Cpu} {k n : Nat} {c : Cpu} {a b : AVal} (hob : obj H 0 = some (2, rows)) (hlen : rows.length = n) (hv : rows.map (fun r => List.map (view H 2) r) = (l.map Cpu.hrow).set k [a, b])
    (ha : Sof (.fsl true 3 (c.lines.map Ln.row)) a) (hb : Sof (.fsl true 2 (c.orders.map Od.row)) b) (ha2 : hot a = true) (hb2 : hot b = true) : ShowsA H 3 (.fsl true 2 ((l.map Cpu.hrow).set k c.hrow)) (.osl 0 2 0 n n) := by
  subst hlen
  have e : view H 3 (.osl 0 2 0 rows.length rows.length) = .fsl true 2 ((l.map Cpu.hrow).set k [a, b]) := by
    have ht : (rows.drop 0).take rows.length = rows := List.take_of_length_le (by simp)
    simp only [view, hob, Nat.zero_add, Nat.le_refl, and_self, if_true, ht]
    rw [← hv]
  refine ⟨?_, ?_⟩
  · rw [e, ← List.map_set]
    exact sof_set ha hb
  · rw [e]
    simp only [hot, Bool.true_or, Bool.true_and]
    exact hotR_set (Cpu.hotR l) (by simp [hotC, ha2, hb2])
theorem tlServe_pure : PureOk Try.prog 46 (argM (cSl rCpu) fun l => argM (cInt .i64) fun cpu => finM (some (srvE l cpu))) := by
  refine pureS2 Try.func46 rfl ?_
  rintro l cpu r' hr
  simp only [Option.some.injEq] at hr
  subst hr
  refine bodyS_of ((((noOrc_ok.withP tlChk_pure).withIF (cpy_inl (mdS cpu.toNat)) frameN_loc).withI forget_inl).withIF odDel delete_loc) fxMix (by kernel_rfl) (by simp [Try.ntmps46]) ?_
  intro C cP cI cN cD cF cA
  have cp0 := orcP tlChk_pure (C := C) (by rw [cP]; rfl)
  have cn0 := orcI (cpy_inl (mdS cpu.toNat)) (C := C) (by rw [cN]; rfl)
  have cn1 := orcI forget_inl (C := C) (by rw [cN]; rfl)
  have cn2 := orcI odDel (C := C) (by rw [cN]; rfl)
  replace cI := fun g => congrFun cI g
  simp only [Orc.withP, Orc.withI, Orc.withF, Orc.withD, Orc.withA, noOrc] at cI
  replace cD : C.dyn = fun _ => [] := cD
  clear cP cN cF cA
  unfold srvE
  by_cases h0 : tlChk l cpu = 0
  case neg =>
    simp [Try.ntmps46, Try.results46, cSl, cp0, cn0, cn1, cn2, cI, cD, rCpu, cpuDec, Cpu.row, rLn, lnDec, rOd, odDec, h0]
    exact showsV _
  obtain ⟨g0, g1, g2⟩ := tlChk_iff.1 h0
  obtain ⟨k, rfl⟩ := Int.eq_ofNat_of_zero_le g1
  have hk : k < l.length := by omega
  obtain ⟨l1, l2, l3⟩ := tlCheck_iff.1 g0
  have hcp : (∀ c ∈ l, c.lines.length ≤ 8 ∧ c.orders.length ≤ 4) = True := eq_true fun c hc => cpuE_len (l3 c hc)
  have hg := shR_get (md := mdS k) (c := 1) hk
  have hgl := shR_len (mdS k) 0 1 l
  have hsp := shT_split (md := mdS k) hk
  have hoth : ∀ j, 0 + j ≠ 0 + k → mdS k (0 + j) = (false, false) := by intro j hj; simp [mdS]; omega
  have hmd : mdS k k = (true, true) := by simp [mdS]
  rw [hmd] at hg hsp
  rw [cpuAt_nat hk]
  generalize shT (mdS k) 0 (l.take k) = A at hg hsp
  generalize shT (mdS k) (k + 1) (l.drop (k + 1)) = B at hsp
  generalize hck : l[k] = c at *
  obtain ⟨L, O⟩ := c
  have hg2 : (shR (mdS k) 0 1 l)[k]'(by rw [hgl]; exact hk) = segR (true, true) (1 + A.length) ⟨L, O⟩ := by
    rw [List.getElem?_eq_getElem (by rw [hgl]; exact hk)] at hg
    exact Option.some.inj hg
  have hL8 : L.length ≤ 8 := (cpuE_len (l3 ⟨L, O⟩ (hck ▸ List.getElem_mem hk))).1
  have hO4 : O.length ≤ 4 := (cpuE_len (l3 ⟨L, O⟩ (hck ▸ List.getElem_mem hk))).2
  have hL9 : L.length ≤ 1048576 := by omega
  simp [Try.ntmps46, Try.results46, cSl, cp0, cn0, cn1, cn2, cI, cD, rCpu, cpuDec, Cpu.row, rLn, lnDec, rOd, odDec, h0, l1, l2, hcp, shR_tau, shT_tau, shR_new, shT_new]
  rw [hsp]
  have hpos : L ≠ [] → 0 < L.length := List.length_pos_iff.2
  by_cases e : L = []
  · subst e
    cases O with
    | nil =>
      simp [Try.ntmps46, Try.results46, cSl, cp0, cn0, cn1, cn2, cI, cD, hk, hgl, hg2, segR, lnA, odA, lnT, odT]
      refine showsT3 (shows_cpus (a := .esl) (b := .esl) rfl hgl (vset_self hoth (by rw [hgl]; exact hk) ?_) ?_ ?_ ?_ ?_) (showsV _) (showsV _)
      · simp [hg2, segR, lnA, odA]
      · exact .esl
      · exact .esl
      · rfl
      · rfl
    | cons o O =>
      have hO5 : O.length ≤ 1048575 := by simp at hO4; omega
      simp [Try.ntmps46, Try.results46, cSl, cp0, cn0, cn1, cn2, cI, cD, hk, hgl, hg2, segR, lnA, odA, lnT, odT, deleteI, hO5, get1, set1, rOd, odDec, Od.row, rLn, lnDec, Ln.row]
      refine showsT3 (shows_cpus (a := .esl) (b := .fsl true 2 (O.map Od.row)) rfl (by rw [List.length_set]; exact hgl) ?_ ?_ ?_ ?_ ?_) (showsV _) (showsV _)
      · simp [shR_vset hoth, get1]
      · exact .esl
      · exact .refl _
      · rfl
      · simp [hot]
  · have hps : 0 < L.length := hpos e
    cases O with
    | nil =>
      simp [Try.ntmps46, Try.results46, cSl, cp0, cn0, cn1, cn2, cI, cD, hk, hgl, hg2, segR, lnA, odA, lnT, odT, e]
      refine showsT3 (shows_cpus (a := .fsl true 3 (L.map Ln.row)) (b := .esl) rfl hgl (vset_self hoth (by rw [hgl]; exact hk) ?_) ?_ ?_ ?_ ?_) (showsV _) (showsV _)
      · simp [hg2, segR, lnA, odA, e, get1]
      · exact .refl _
      · exact .esl
      · simp [hot]
      · rfl
    | cons o O =>
      have hO5 : O.length ≤ 1048575 := by simp at hO4; omega
      simp [Try.ntmps46, Try.results46, cSl, cp0, cn0, cn1, cn2, cI, cD, hk, hgl, hg2, segR, lnA, odA, lnT, odT, e, hps, deleteI, zLn, hO5, hL9, get1, set1, get1', set1', get0', set0', rOd, odDec, Od.row, rLn, lnDec, Ln.row]
      refine showsT3 (shows_cpus (a := .fsl true 3 ((forg o L).map Ln.row)) (b := .fsl true 2 (O.map Od.row)) rfl (by rw [List.length_set]; exact hgl) ?_ ?_ ?_ ?_ ?_) (showsV _) (showsV _)
      · simp [shR_vset hoth, get1, get1', get0']
      · exact .refl _
      · exact .refl _
      · simp [hot]
      · simp [hot]
end Go.Proofs.Ytdhpgdfjogklaaa
namespace Go.Proofs.Ytdhpgdfjogklaaa
open Go.AI
set_option maxHeartbeats 2000000
set_option maxRecDepth 100000
set_option linter.unusedSimpArgs false
set_option linter.unusedVariables false
attribute [local simp] wpA wpX RunA RunD runF foot footP footB idsA bare apart runL step1 gsel_f gsel_t gsel_s res_same res_and1 res_and2 res_and3 res_and4 res_and5 res_and6 res_false res_true res_v res_ptr res_fptr res_osl res_xsl soft aAppendZ aCap ovlI ovlJ res_fsl res_esl res_agg res_tup res_fn res_junk res_anyb aPick hk imp_left iteV dstOk guardOk astep astepE AI.ev AI.look AI.put envOf aBox cellsOf allOne allOneA oneA Value.oneCell' Value.cells newObj' aFieldAddr aLoad obj readAt thenA blockA condA retA resA tupA view hot hotC hotR depthV cAgg cInt cBool mkAgg allV aAlloc aBuild fillA writeAt aStore isAggA aField idx aIndexAddr aIndex bnd aSlice aExtract aLen aBuiltin aCall isStatic eqAgg eqTy eqC ev_add ev_sub ev_mul ev_quo ev_rem ev_and ev_or ev_xor ev_andNot ev_shl ev_shr ev_eql ev_neq ev_lss ev_leq ev_gtr ev_geq ev_agg w64 wu32 wu8 ev_not ev_neg Cod.plain RCod.plain argM finM cold coldC coldR goInt intDec boolDec aggDec Weaker heapW lowA lowC Again slDec undef aBuildSlice setRows aAppend rowsOf aMakeSlice aClear aCopy softer_self softer_nil valsOf ev_min2 ev_max2 hotR_set hotR_append take_map_set irow_cold irow_mapM irow_mapMc irow_view irow_viewc irow_hotR irow_ren irow_renc irow_low WeakT heapT thOf ren renC AgainT NextF NextT fnDec cFn rNil selfLt natLt0 natLt1 getLastMap frame0 frame1 own0 own1 argG finG tau tauI tauO tauC bareA bareC bareH irow_tau irow_tauc irow_bare irow_flat irow_bareR ownA_nil ownT_nil ownA_c ownT_c ownA_s ownT_s takeMapLen footC plainA noId noIdC cloneF frame0F frame1F insertF replaceI replaceF cellDec rCell fpDec cFp rTwo deleteF allV_oA oneA_oA res_oA RunR RunE runFT footAt hotR_cat tmodN frameN newA newC newH fxSz2 fxBy2 fxAg2 fxZe2 fxSl2 fxAr2 fxPl2 fxSz3 fxBy3 fxAg3 fxZe3 fxSl3 fxAr3 fxPl3 fxSz4 fxBy4 fxAg4 fxZe4 fxSl4 fxAr4 fxPl4 fxSz5 fxBy5 fxAg5 fxZe5 fxSl5 fxAr5 fxPl5 fxSz9 fxBy9 fxAg9 fxZe9 fxSl9 fxAr9 fxPl9 fxSz12 fxBy12 fxAg12 fxZe12 fxSl12 fxAr12 fxPl12 fxSz13 fxBy13 fxAg13 fxZe13 fxSl13 fxAr13 fxFi13x0 fxFi13x1 fxPl13 fxSz21 fxBy21 fxAg21 fxZe21 fxSl21 fxAr21 fxPl21 fxSz22 fxBy22 fxAg22 fxZe22 fxSl22 fxAr22 fxPl22 fxSz23 fxBy23 fxAg23 fxZe23 fxSl23 fxAr23 fxFi23x0 fxFi23x1 fxPl23 fxSz24 fxBy24 fxAg24 fxZe24 fxSl24 fxAr24 fxFi24x0 fxFi24x1 fxPl24 fxSz25 fxBy25 fxAg25 fxZe25 fxSl25 fxAr25 fxPl25 fxSz26 fxBy26 fxAg26 fxZe26 fxSl26 fxAr26 fxPl26 fxSz27 fxBy27 fxAg27 fxZe27 fxSl27 fxAr27 fxFi27x0 fxFi27x1 fxFi27x2 fxFi27x3 fxFi27x4 fxFi27x5 fxFi27x6 fxPl27 fxSz28 fxBy28 fxAg28 fxZe28 fxSl28 fxAr28 fxFi28x0 fxFi28x1 fxFi28x2 fxFi28x3 fxFi28x4 fxFi28x5 fxFi28x6 fxPl28 fxSz29 fxBy29 fxAg29 fxZe29 fxSl29 fxAr29 fxPl29 fxSz44 fxBy44 fxAg44 fxZe44 fxSl44 fxAr44 fxPl44 fxSz45 fxBy45 fxAg45 fxZe45 fxSl45 fxAr45 fxPl45 fxSz52 fxBy52 fxAg52 fxZe52 fxSl52 fxAr52 fxPl52 fxSz54 fxBy54 fxAg54 fxZe54 fxSl54 fxAr54 fxFi54x0 fxFi54x1 fxPl54 fxSz55 fxBy55 fxAg55 fxZe55 fxSl55 fxAr55 fxFi55x0 fxFi55x1 fxPl55 fxSz56 fxBy56 fxAg56 fxZe56 fxSl56 fxAr56 fxPl56 fxSz60 fxBy60 fxAg60 fxZe60 fxSl60 fxAr60 fxPl60 fxSz61 fxBy61 fxAg61 fxZe61 fxSl61 fxAr61 fxPl61 fxSz62 fxBy62 fxAg62 fxZe62 fxSl62 fxAr62 fxFi62x0 fxFi62x1 fxPl62 fxSz63 fxBy63 fxAg63 fxZe63 fxSl63 fxAr63 fxFi63x0 fxFi63x1 fxPl63 fxSz76 fxBy76 fxAg76 fxZe76 fxSl76 fxAr76 fxPl76 fxSz83 fxBy83 fxAg83 fxZe83 fxSl83 fxAr83 fxFi83x0 fxFi83x1 fxFi83x2 fxPl83 fxSz84 fxBy84 fxAg84 fxZe84 fxSl84 fxAr84 fxFi84x0 fxFi84x1 fxFi84x2 fxPl84 fxSz99 fxBy99 fxAg99 fxZe99 fxSl99 fxAr99 fxPl99 fxSz106 fxBy106 fxAg106 fxZe106 fxSl106 fxAr106 fxPl106 fxSz107 fxBy107 fxAg107 fxZe107 fxSl107 fxAr107 fxFi107x0 fxPl107 fxSz113 fxBy113 fxAg113 fxZe113 fxSl113 fxAr113 fxPl113 fxSz118 fxBy118 fxAg118 fxZe118 fxSl118 fxAr118 fxPl118 fxEq28 fxEq55 fxEq56 fxEq84 fxCv2x2 fxCv2x3 fxCv2x5 fxCv2x12 fxCv2x21 fxCv2x29 fxCv2x45 fxCv3x2 fxCv3x3 fxCv3x5 fxCv3x12 fxCv3x21 fxCv3x29 fxCv3x45 fxCv5x2 fxCv5x3 fxCv5x5 fxCv5x12 fxCv5x21 fxCv5x29 fxCv5x45 fxCv12x2 fxCv12x3 fxCv12x5 fxCv12x12 fxCv12x21 fxCv12x29 fxCv12x45 fxCv21x2 fxCv21x3 fxCv21x5 fxCv21x12 fxCv21x21 fxCv21x29 fxCv21x45 fxCv29x2 fxCv29x3 fxCv29x5 fxCv29x12 fxCv29x21 fxCv29x29 fxCv29x45 fxCv45x2 fxCv45x3 fxCv45x5 fxCv45x12 fxCv45x21 fxCv45x29 fxCv45x45 fxEb4 fxNb4 fxLt9 fxLn22 fxNe22 fxNn22 fxOe22 fxOn22 fxXe22 fxXn22 fxLn44 fxNe44 fxNn44 fxOe44 fxOn44 fxXe44 fxXn44 fxLn52 fxNe52 fxNn52 fxOe52 fxOn52 fxXe52 fxXn52 fxLn60 fxNe60 fxNn60 fxOe60 fxOn60 fxXe60 fxXn60 fxLn61 fxNe61 fxNn61 fxOe61 fxOn61 fxXe61 fxXn61 fxLn76 fxNe76 fxNn76 fxOe76 fxOn76 fxXe76 fxXn76 fxFn3 fxFm3 fxFb3 fxFi3 fxFj3 fxFn4 fxFm4 fxFb4 fxFi4 fxFj4 fxFn5 fxFm5 fxFb5 fxFi5 fxFj5 fxFn6 fxFm6 fxFb6 fxFi6 fxFj6 fxFn7 fxFm7 fxFb7 fxFi7 fxFj7 fxFn8 fxFm8 fxFb8 fxFi8 fxFj8 fxFn9 fxFm9 fxFb9 fxFi9 fxFj9 fxFn10 fxFm10 fxFb10 fxFi10 fxFj10 fxFn11 fxFm11 fxFb11 fxFi11 fxFj11 fxFn12 fxFm12 fxFb12 fxFi12 fxFj12 fxFn13 fxFm13 fxFb13 fxFi13 fxFj13 fxFn14 fxFm14 fxFb14 fxFi14 fxFj14 fxFn15 fxFm15 fxFb15 fxFi15 fxFj15 fxFn16 fxFm16 fxFb16 fxFi16 fxFj16 fxFn17 fxFm17 fxFb17 fxFi17 fxFj17 fxFn18 fxFm18 fxFb18 fxFi18 fxFj18 fxFn19 fxFm19 fxFb19 fxFi19 fxFj19 fxFn20 fxFm20 fxFb20 fxFi20 fxFj20 fxFn21 fxFm21 fxFb21 fxFi21 fxFj21 fxFn22 fxFm22 fxFb22 fxFi22 fxFj22 fxFn23 fxFm23 fxFb23 fxFi23 fxFj23 fxFn24 fxFm24 fxFb24 fxFi24 fxFj24 fxFn25 fxFm25 fxFb25 fxFi25 fxFj25 fxFn26 fxFm26 fxFb26 fxFi26 fxFj26 fxFn27 fxFm27 fxFb27 fxFi27 fxFj27 fxFn28 fxFm28 fxFb28 fxFi28 fxFj28 fxFn29 fxFm29 fxFb29 fxFi29 fxFj29 fxFn30 fxFm30 fxFb30 fxFi30 fxFj30 fxFn31 fxFm31 fxFb31 fxFi31 fxFj31 fxFn32 fxFm32 fxFb32 fxFi32 fxFj32 fxFn33 fxFm33 fxFb33 fxFi33 fxFj33 fxFn34 fxFm34 fxFb34 fxFi34 fxFj34 fxFn35 fxFm35 fxFb35 fxFi35 fxFj35 fxFn36 fxFm36 fxFb36 fxFi36 fxFj36 fxFn37 fxFm37 fxFb37 fxFi37 fxFj37 fxFn38 fxFm38 fxFb38 fxFi38 fxFj38 fxFn39 fxFm39 fxFb39 fxFi39 fxFj39 fxFn40 fxFm40 fxFb40 fxFi40 fxFj40 fxFn41 fxFm41 fxFb41 fxFi41 fxFj41 fxFn42 fxFm42 fxFb42 fxFi42 fxFj42 fxFn43 fxFm43 fxFb43 fxFi43 fxFj43 fxFn44 fxFm44 fxFb44 fxFi44 fxFj44 fxFn45 fxFm45 fxFb45 fxFi45 fxFj45 fxFn46 fxFm46 fxFb46 fxFi46 fxFj46 fxFn47 fxFm47 fxFb47 fxFi47 fxFj47 fxFn48 fxFm48 fxFb48 fxFi48 fxFj48 fxFn49 fxFm49 fxFb49 fxFi49 fxFj49 fxFn50 fxFm50 fxFb50 fxFi50 fxFj50 fxFn51 fxFm51 fxFb51 fxFi51 fxFj51 fxFn52 fxFm52 fxFb52 fxFi52 fxFj52 fxFn53 fxFm53 fxFb53 fxFi53 fxFj53 fxFn54 fxFm54 fxFb54 fxFi54 fxFj54 fxFn55 fxFm55 fxFb55 fxFi55 fxFj55 fxFn56 fxFm56 fxFb56 fxFi56 fxFj56 fxFn57 fxFm57 fxFb57 fxFi57 fxFj57 fxFn58 fxFm58 fxFb58 fxFi58 fxFj58 fxFn59 fxFm59 fxFb59 fxFi59 fxFj59 fxFn60 fxFm60 fxFb60 fxFi60 fxFj60
attribute [local simp] Ln.eta Ln.cold Ln.mapM Ln.mapMc Ln.view Ln.viewc Ln.hotR Ln.ren Ln.renc Ln.low Ln.tau Ln.tauc Ln.bare Ln.flat Ln.flat1 Ln.mapMt Ln.mapMd Ln.coldt Ln.coldd Ln.hotRt Ln.hotRd
attribute [local simp] Od.eta Od.cold Od.mapM Od.mapMc Od.view Od.viewc Od.hotR Od.ren Od.renc Od.low Od.tau Od.tauc Od.bare Od.flat Od.flat1 Od.mapMt Od.mapMd Od.coldt Od.coldd Od.hotRt Od.hotRd
attribute [local simp] Cpu.eta Cpu.dec_row Cpu.dec_hrow Cpu.cold Cpu.hcold Cpu.mapM Cpu.mapMc Cpu.hmapM Cpu.hmapMc Cpu.view Cpu.viewc Cpu.hview Cpu.hviewc Cpu.hotR Cpu.ren Cpu.renc Cpu.low Cpu.hlow
def mdT (b : Nat) : Mode := fun i => (i == b, i != b)
def shotC (b i : Nat) (o : Od) (c : Cpu) : Cpu := if i = b then ⟨forg o c.lines, c.orders⟩ else ⟨c.lines, c.orders ++ [o]⟩
def shots (b : Nat) (o : Od) : Nat → List Cpu → List Cpu
  | _, [] => []
  | i, c :: r => shotC b i o c :: shots b o (i + 1) r
def wtB (b : Nat) : Nat → List Cpu → Bool
  | _, [] => false
  | i, c :: r => (i != b && decide (c.orders.length = 4)) || wtB b (i + 1) r
def tlShoot (l : List Cpu) (b : Int) (o : Od) : Except Int (List Cpu) :=
  if tlChk l b = 0 then (if okO o = true then (if wtB b.toNat 0 l = true then .error 9 else .ok (shots b.toNat o 0 l)) else .error 1) else .error (tlChk l b)
theorem shots_len (b : Nat) (o : Od) (i : Nat) (l : List Cpu) : (shots b o i l).length = l.length := by
  induction l generalizing i with
  | nil => rfl
  | cons c r ih => simp [shots, ih]
theorem shots_snoc (b : Nat) (o : Od) (i : Nat) (l : List Cpu) (c : Cpu) : shots b o i (l ++ [c]) = shots b o i l ++ [shotC b (i + l.length) o c] := by
  induction l generalizing i with
  | nil => simp [shots]
  | cons a l ih =>
    simp only [List.cons_append, shots, ih, List.length_cons]
    rw [show i + 1 + l.length = i + (l.length + 1) by omega]
def stN (b : Nat) (l : List Cpu) (k : Nat) : Nat := (shT (mdT b) 0 (l.take k)).length
def stR (b : Nat) (o : Od) (l : List Cpu) (k : Nat) : List Row := (shots b o 0 (l.take k)).map Cpu.hrow ++ shR (mdT b) k (2 + stN b l k) (l.drop k)
def stH (b : Nat) (l : List Cpu) (k : Nat) : Heap := List.replicate (stN b l k) none ++ shT (mdT b) k (l.drop k)
theorem stR_len (b : Nat) (o : Od) (l : List Cpu) (k : Nat) : (stR b o l k).length = l.length := by simp [stR, shots_len, shR_len]; omega
theorem stN_next {b : Nat} {l : List Cpu} {k : Nat} (hk : k < l.length) : stN b l (k + 1) = stN b l k + (segT (mdT b k) l[k]).length := by
  unfold stN
  rw [cpT_next hk, List.length_append]
theorem stR_drop {b : Nat} {o : Od} {l : List Cpu} {k : Nat} (hk : k < l.length) : stR b o l k = (shots b o 0 (l.take k)).map Cpu.hrow ++ (segR (mdT b k) (2 + stN b l k) l[k] :: shR (mdT b) (k + 1) (2 + stN b l (k + 1)) (l.drop (k + 1))) := by
  unfold stR
  rw [List.drop_eq_getElem_cons hk, shR, stN_next hk, Nat.add_assoc]
theorem stR_get {b : Nat} {o : Od} {l : List Cpu} {k : Nat} (hk : k < l.length) : (stR b o l k)[k]? = some (segR (mdT b k) (2 + stN b l k) l[k]) := by
  have hl : ((shots b o 0 (l.take k)).map Cpu.hrow).length = k := by simp [shots_len]; omega
  rw [stR_drop hk, List.getElem?_append_right (by omega), hl, Nat.sub_self, List.getElem?_cons_zero]
theorem stR_set {b : Nat} {o : Od} {l : List Cpu} {k : Nat} (hk : k < l.length) : (stR b o l k).set k (shotC b k o l[k]).hrow = stR b o l (k + 1) := by
  have hl : ((shots b o 0 (l.take k)).map Cpu.hrow).length = k := by simp [shots_len]; omega
  have ht : (l.take k).length = k := by simp; omega
  rw [stR_drop hk, List.set_append_right _ _ (by omega), hl, Nat.sub_self, List.set_cons_zero]
  unfold stR
  rw [List.take_succ_eq_append_getElem hk, shots_snoc, ht, Nat.zero_add]
  simp
theorem stH_drop {b : Nat} {l : List Cpu} {k : Nat} (hk : k < l.length) : stH b l k = List.replicate (stN b l k) none ++ (lnT (mdT b k).1 l[k].lines ++ (odT (mdT b k).2 l[k].orders ++ shT (mdT b) (k + 1) (l.drop (k + 1)))) := by
  unfold stH
  rw [List.drop_eq_getElem_cons hk, shT, segT, List.append_assoc]
theorem lnT_nones (L : List Ln) : lnT false L = List.replicate (lnT false L).length none := by unfold lnT; split <;> rfl
theorem odT_nones (O : List Od) : odT false O = List.replicate (odT false O).length none := by unfold odT; split <;> rfl
theorem stH_next {b : Nat} {l : List Cpu} {k : Nat} (hk : k < l.length) : stH b l (k + 1) = List.replicate (stN b l k) none ++ (lnT false l[k].lines ++ (odT false l[k].orders ++ shT (mdT b) (k + 1) (l.drop (k + 1)))) := by
  have h1 : ∀ X : Heap, lnT false l[k].lines ++ (odT false l[k].orders ++ X) = List.replicate ((lnT false l[k].lines).length + (odT false l[k].orders).length) none ++ X := by
    intro X
    rw [← List.replicate_append_replicate, ← lnT_nones, ← odT_nones, List.append_assoc]
  unfold stH
  rw [h1, stN_next hk, segT, List.length_append, lnT_len (mdT b k).1, odT_len (mdT b k).2, lnT_len false, odT_len false, ← List.replicate_append_replicate, List.append_assoc]
theorem stR_low {b : Nat} {o : Od} {l : List Cpu} {k n : Nat} (h : 2 + (stH b l k).length ≤ n) : ∀ r ∈ stR b o l k, r.all (lowA n) = true := by
  intro r hr
  unfold stR at hr
  rcases List.mem_append.1 hr with hr | hr
  · obtain ⟨x, _, rfl⟩ := List.mem_map.1 hr
    simp
  · exact shR_low (by simp only [stH, List.length_append, List.length_replicate] at h; omega) r hr
theorem stH_self {b n : Nat} {l : List Cpu} {k : Nat} {Z : Heap} : heapW n (stH b l k) (stH b l k ++ Z) := by
  have := heapW_app (n := n) (X := stH b l k) (Y := []) (Z := Z) (fun o ho => by
    unfold stH at ho
    rcases List.mem_append.1 ho with ho | ho
    · have := List.eq_of_mem_replicate ho
      cases this
    · exact shT_low o ho) trivial
  simpa using this
theorem get2 {a b x : Option (Nat × List Row)} {B : Heap} {n : Nat} : (a :: b :: (List.replicate n none ++ (x :: B)))[2 + n]? = some x := by
  rw [Nat.add_comm]; simp
theorem set2 {a b x y : Option (Nat × List Row)} {B : Heap} {n : Nat} : (a :: b :: (List.replicate n none ++ (x :: B))).set (2 + n) y = a :: b :: (List.replicate n none ++ (y :: B)) := by
  rw [Nat.add_comm]; simp
theorem get2X {a b x : Option (Nat × List Row)} {X B : Heap} {n : Nat} : (a :: b :: (List.replicate n none ++ (X ++ (x :: B))))[2 + n + X.length]? = some x := by
  rw [show 2 + n + X.length = (n + X.length) + 1 + 1 by omega, List.getElem?_cons_succ, List.getElem?_cons_succ, List.getElem?_append_right (by simp), List.length_replicate, Nat.add_sub_cancel_left, List.getElem?_append_right (Nat.le_refl _), Nat.sub_self, List.getElem?_cons_zero]
theorem set2X {a b x y : Option (Nat × List Row)} {X B : Heap} {n : Nat} : (a :: b :: (List.replicate n none ++ (X ++ (x :: B)))).set (2 + n + X.length) y = a :: b :: (List.replicate n none ++ (X ++ (y :: B))) := by
  rw [show 2 + n + X.length = (n + X.length) + 1 + 1 by omega, List.set_cons_succ, List.set_cons_succ, List.set_append_right _ _ (by simp), List.length_replicate, Nat.add_sub_cancel_left, List.set_append_right _ _ (Nat.le_refl _), Nat.sub_self, List.set_cons_zero]
theorem ent_cell0 {ρ : Env} {x0 : Option (Nat × List Row)} {R : List Row} {k : Nat} {z : AVal} {S : Heap} (hk : k < R.length) : Ent 0 (ρ, x0 :: some (2, R.set k [.fsl true 3 [], z]) :: S) (ρ, x0 :: some (2, R.set k [.esl, z]) :: S) := by
  have h := Ent.cell (n0 := 0) (ρ := ρ) (H := x0 :: some (2, R.set k [.esl, z]) :: S) (M := 1) (i := k) (j := 0) (szM := 2) (a := .esl) (r := .fsl true 3 []) rfl (List.getElem?_set_self hk) rfl .esl
  simpa using h
theorem ent_frz0 {ρ : Env} {x0 : Option (Nat × List Row)} {R rows : List Row} {k n m kc : Nat} {z : AVal} {H H1 A T : Heap} (hn : n = 2 + A.length) (hk : k < R.length) (hm : m ≤ rows.length) (hlow : ∀ r ∈ rows, r.all (lowA 0) = true)
    (hH : H = x0 :: some (2, R.set k [.osl n 3 0 m kc, z]) :: (A ++ some (3, rows) :: T)) (hH1 : H1 = x0 :: some (2, R.set k [.fsl true 3 (rows.take m), z]) :: (A ++ none :: T)) : Ent 0 (ρ, H1) (ρ, H) := by
  subst hH; subst hH1; subst hn
  have h := Ent.frzT (n0 := 0) (ρ := ρ) (H := x0 :: some (2, R.set k [.osl (2 + A.length) 3 0 m kc, z]) :: (A ++ some (3, rows) :: T)) (n := 2 + A.length) (M := 1) (i := k) (j := 0) (szM := 2) (len := m) (kc := kc) (sz := 3) (rows := rows) (by rw [Nat.add_comm]; simp [obj]) hm hlow rfl (by omega) (List.getElem?_set_self hk) rfl
  rw [Nat.add_comm 2] at h ⊢
  simpa using h
theorem ent_frz1 {ρ : Env} {x0 : Option (Nat × List Row)} {R rows : List Row} {k n m kc : Nat} {z : AVal} {H H1 A T : Heap} (hn : n = 2 + A.length) (hk : k < R.length) (hm : m ≤ rows.length) (hlow : ∀ r ∈ rows, r.all (lowA 0) = true)
    (hH : H = x0 :: some (2, R.set k [z, .osl n 2 0 m kc]) :: (A ++ some (2, rows) :: T)) (hH1 : H1 = x0 :: some (2, R.set k [z, .fsl true 2 (rows.take m)]) :: (A ++ none :: T)) : Ent 0 (ρ, H1) (ρ, H) := by
  subst hH; subst hH1; subst hn
  have h := Ent.frzT (n0 := 0) (ρ := ρ) (H := x0 :: some (2, R.set k [z, .osl (2 + A.length) 2 0 m kc]) :: (A ++ some (2, rows) :: T)) (n := 2 + A.length) (M := 1) (i := k) (j := 1) (szM := 2) (len := m) (kc := kc) (sz := 2) (rows := rows) (by rw [Nat.add_comm]; simp [obj]) hm hlow rfl (by omega) (List.getElem?_set_self hk) rfl
  rw [Nat.add_comm 2] at h ⊢
  simpa using h
theorem shNext {st : Nat → Unit → Env × Heap} {inv : Nat → Unit → Prop} {k : Nat} {ρ : Env} {H : Heap} (H1 : Heap) (hi : inv (k + 1) ()) (hE : Ent 0 (ρ, H1) (ρ, H)) (hw : Weaker 0 (st (k + 1) ()) (ρ, H1)) : NextE 0 st inv (k + 1) ρ H := ⟨(), hi, .trans (.weak hw) hE⟩
theorem tlShoot_pure : PureOk Try.prog 23 (argM (cSl rCpu) fun l => argM (cInt .i64) fun b => argM (cAgg rOd) fun o => finM (some (flE (tlShoot l b o)))) := by
  refine pure3 Try.func23 rfl ?_
  rintro l b o r hr
  simp only [Option.some.injEq] at hr
  subst hr
  refine body_gen (((((noOrc_ok.withP tlChk_pure).withP tlRight_pure).withIF (cpy_inl (mdT b.toNat)) frameN_loc).withI forget_inl).withD (fun i => if i = 10 then [(6,8)] else [])) fxMix (by kernel_rfl) (by simp [Try.ntmps23]) ?_
  intro C cP cI cN cD cF cA
  have cp0 := orcP tlChk_pure (C := C) (by rw [cP]; rfl)
  have cp1 := orcP tlRight_pure (C := C) (by rw [cP]; rfl)
  have cn0 := orcI (cpy_inl (mdT b.toNat)) (C := C) (by rw [cN]; rfl)
  have cn1 := orcI forget_inl (C := C) (by rw [cN]; rfl)
  replace cI := fun g => congrFun cI g
  simp only [Orc.withP, Orc.withI, Orc.withF, Orc.withD, Orc.withA, noOrc] at cI
  replace cD : C.dyn = fun i => if i = 10 then [(6,8)] else [] := cD
  replace cF := fun g => congrFun cF g
  simp only [Orc.withP, Orc.withI, Orc.withF, Orc.withD, Orc.withA, noOrc] at cF
  replace cA : C.alt = fun _ => [] := cA
  clear cP cN
  unfold tlShoot
  by_cases h0 : tlChk l b = 0
  case neg => simp [Try.ntmps23, Try.results23, cSl, cp0, cp1, cn0, cn1, cI, cD, cF, cA, rCpu, cpuDec, Cpu.row, rLn, lnDec, rOd, odDec, Od.row, h0, flE]
  have hmx : (if 0 < o.page then o.page else 0) = max o.page 0 := by omega
  have hmx2 : (if o.page > 0 then o.page else 0) = max o.page 0 := by omega
  have hmx3 : (if o.page < 0 then 0 else o.page) = max o.page 0 := by omega
  have hmx4 : (if 0 > o.page then 0 else o.page) = max o.page 0 := by omega
  by_cases h1 : okO o = true
  case neg =>
    by_cases c1 : okSP o.space (max o.page 0) = true
    · have c2 : o.page < -1 := by
        unfold okO at h1
        rw [c1] at h1
        simp at h1
        omega
      simp [Try.ntmps23, Try.results23, cSl, cp0, cp1, cn0, cn1, cI, cD, cF, cA, rCpu, cpuDec, Cpu.row, rLn, lnDec, rOd, odDec, Od.row, h0, h1, c1, c2, hmx, hmx2, hmx3, hmx4, flE]
      done
    · simp only [Bool.not_eq_true] at c1
      simp [Try.ntmps23, Try.results23, cSl, cp0, cp1, cn0, cn1, cI, cD, cF, cA, rCpu, cpuDec, Cpu.row, rLn, lnDec, rOd, odDec, Od.row, h0, h1, c1, hmx, hmx2, hmx3, hmx4, flE]
  have c1 : okSP o.space (max o.page 0) = true := by unfold okO at h1; simp at h1; exact h1.1
  have c2 : ¬ o.page < -1 := by unfold okO at h1; simp at h1; omega
  obtain ⟨g0, g1, g2⟩ := tlChk_iff.1 h0
  obtain ⟨b, rfl⟩ := Int.eq_ofNat_of_zero_le g1
  have hbl : b < l.length := by omega
  obtain ⟨l1, l2, l3⟩ := tlCheck_iff.1 g0
  have hcp : (∀ c ∈ l, c.lines.length ≤ 8 ∧ c.orders.length ≤ 4) = True := eq_true fun c hc => cpuE_len (l3 c hc)
  simp [Try.ntmps23, Try.results23, cSl, cp0, cp1, cn0, cn1, cI, cD, cF, cA, rCpu, cpuDec, Cpu.row, rLn, lnDec, rOd, odDec, Od.row, h0, h1, c1, c2, hmx, hmx2, hmx3, hmx4, l1, l2, hcp, shR_tau, shT_tau, shR_new, shT_new]
  refine loop_forE l.length (fun k (_ : Unit) => ([(0, .osl 1 2 0 l.length l.length), (1, .v (.int .i64 b)), (5, .ptr 0 2 0 0), (33, .v (.int .i64 l.length)), (34, .v (.int .i64 k))], some (2, [[.v (.int .i64 o.space), .v (.int .i64 o.page)]]) :: some (2, stR b o l k) :: stH b l k)) (fun k _ => wtB b k (l.drop k) = wtB b 0 l) () (by rintro k _ h _; omega) (by simp) ?_ ?_ ?_
  · refine .weak ?_
    simp [stR, stH, stN, shR, shT, shots, shT_self]
    intro x hx a ha
    exact List.all_eq_true.1 (shR_low (Nat.le_of_eq (by omega)) x hx) a ha
  · rintro k _ hk hall hw
    have hrg := stR_get (b := b) (o := o) hk
    have hrl := stR_len b o l k
    have hg2 : (stR b o l k)[k]'(by rw [hrl]; exact hk) = segR (mdT b k) (2 + stN b l k) l[k] := by
      rw [List.getElem?_eq_getElem (by rw [hrl]; exact hk)] at hrg
      exact Option.some.inj hrg
    rw [List.drop_eq_getElem_cons hk, wtB] at hall
    have hsd := stH_drop (b := b) hk
    have hsn := stH_next (b := b) hk
    have hrs := stR_set (b := b) (o := o) hk
    have hself := fun Z => stH_self (b := b) (n := (stH b l (k + 1)).length + 2) (l := l) (k := k + 1) (Z := Z)
    have hlow := stR_low (b := b) (o := o) (l := l) (k := k + 1) (n := (stH b l (k + 1)).length + 2) (by omega)
    obtain ⟨hL8, hO4⟩ := cpuE_len (l3 l[k] (List.getElem_mem hk))
    generalize hck : l[k] = c at *
    obtain ⟨L, O⟩ := c
    have hL9 : L.length ≤ 1048576 := by simp at hL8; omega
    have hps : L ≠ [] → 0 < L.length := List.length_pos_iff.2
    by_cases e : k = b
    · subst e
      have hmd : mdT k k = (true, false) := by simp [mdT]
      rw [hmd] at hg2 hsd
      by_cases eL : L = []
      · subst eL
        simp [Try.ntmps23, Try.results23, cSl, cp0, cp1, cn0, cn1, cI, cD, cF, cA, hk, hw, hsd, hrl, hg2, segR, lnA, odA, lnT, zLn, rOd, odDec, Od.row, rLn, lnDec, Ln.row]
        refine shNext (some (2, [[.v (.int .i64 o.space), .v (.int .i64 o.page)]]) :: some (2, stR k o l (k + 1)) :: (stH k l (k + 1) ++ [])) (by simpa using hall) ?_ ?_
        · rw [← hrs, hsn]
          simp only [shotC, if_true, Cpu.hrow, forg, List.filter_nil, List.map_nil, lnT, List.nil_append, List.append_nil]
          exact ent_cell0 (by rw [hrl]; exact hk)
        · have hs0 := hself []
          rw [List.append_nil] at hs0
          simp [hs0]
          intro x hx a ha
          exact List.all_eq_true.1 (hlow x hx) a ha
      · have hp := hps eL
        simp [Try.ntmps23, Try.results23, cSl, cp0, cp1, cn0, cn1, cI, cD, cF, cA, hk, hw, hsd, hrl, hg2, segR, lnA, odA, lnT, eL, hp, hL9, get2, set2, zLn, rOd, odDec, Od.row, rLn, lnDec, Ln.row]
        refine shNext (some (2, [[.v (.int .i64 o.space), .v (.int .i64 o.page)]]) :: some (2, stR k o l (k + 1)) :: (stH k l (k + 1) ++ [])) (by simpa using hall) ?_ ?_
        · rw [← hrs, hsn]
          refine ent_frz0 (A := List.replicate (stN k l k) none) (T := odT false O ++ shT (mdT k) (k + 1) (List.drop (k + 1) l)) (by simp) (by rw [hrl]; exact hk) (by simp) ?_ rfl ?_
          · intro r hr
            rcases List.mem_append.1 hr with hr | hr
            · obtain ⟨x, _, rfl⟩ := List.mem_map.1 hr
              exact Ln.low 0 x
            · rw [List.eq_of_mem_replicate hr]; rfl
          · simp [shotC, Cpu.hrow, lnT, eL]
        · have hs0 := hself []
          rw [List.append_nil] at hs0
          simp [hs0]
          intro x hx a ha
          exact List.all_eq_true.1 (hlow x hx) a ha
    · have hmd : mdT b k = (false, true) := by simp [mdT, e]
      have ei : ¬ (k : Int) = b := by omega
      rw [hmd] at hg2 hsd
      by_cases e4 : O.length = 4
      · have e4' : (O.length : Int) = 4 := by omega
        have hE : wtB b 0 l = true := by rw [← hall]; simp [e, e4]
        rw [hE]
        have eO : O ≠ [] := by intro h; subst h; simp at e4
        simp [Try.ntmps23, Try.results23, cSl, cp0, cp1, cn0, cn1, cI, cD, cF, cA, hk, hw, hsd, hrl, hg2, segR, lnA, odA, odT, eO, e, ei, e4, e4', get2, set2, rOd, odDec, Od.row, rLn, lnDec, Ln.row, flE]
        done
      · have e4' : ¬ (O.length : Int) = 4 := by omega
        have hE : wtB b (k + 1) (l.drop (k + 1)) = wtB b 0 l := by rw [← hall]; simp [e4]
        by_cases eO : O = []
        · subst eO
          simp [Try.ntmps23, Try.results23, cSl, cp0, cp1, cn0, cn1, cI, cD, cF, cA, hk, hw, hsd, hrl, hg2, segR, lnA, odA, odT, e, ei, get2, set2, zLn, rOd, odDec, Od.row, rLn, lnDec, Ln.row]
          refine shNext (some (2, [[.v (.int .i64 o.space), .v (.int .i64 o.page)]]) :: some (2, stR b o l (k + 1)) :: (stH b l (k + 1) ++ [some (2, [[.v (.int .i64 o.space), .v (.int .i64 o.page)]]), none])) (by simpa using hE) ?_ ?_
          · rw [← hrs, hsn]
            refine ent_frz1 (n := stN b l k + ((lnT false L).length + ((shT (mdT b) (k + 1) (List.drop (k + 1) l)).length + 1)) + 1 + 1) (m := 1) (kc := 1) (rows := [[.v (.int .i64 o.space), .v (.int .i64 o.page)]]) (R := stR b o l k) (k := k) (z := .fsl true 3 (L.map Ln.row)) (x0 := some (2, [[.v (.int .i64 o.space), .v (.int .i64 o.page)]])) (A := List.replicate (stN b l k) none ++ (lnT false L ++ (shT (mdT b) (k + 1) (List.drop (k + 1) l) ++ [some (2, [[.v (.int .i64 o.space), .v (.int .i64 o.page)]])]))) (T := []) (by simp; omega) (by rw [hrl]; exact hk) (by simp) ?_ (by simp) ?_
            · intro r hr
              simp at hr; subst hr; rfl
            · simp [shotC, Cpu.hrow, odT, Od.row, e]
          · simp [hself]
            intro x hx a ha
            exact List.all_eq_true.1 (hlow x hx) a ha
        · have hO32 : O.length ≤ 4294967295 := by simp at hO4; omega
          have hO1 : ¬ O.length + 1 ≤ O.length := by omega
          simp [Try.ntmps23, Try.results23, cSl, cp0, cp1, cn0, cn1, cI, cD, cF, cA, hO32, hO1, hk, hw, hsd, hrl, hg2, segR, lnA, odA, odT, eO, e, ei, e4, e4', get2X, set2X, zLn, rOd, odDec, Od.row, rLn, lnDec, Ln.row]
          refine shNext (some (2, [[.v (.int .i64 o.space), .v (.int .i64 o.page)]]) :: some (2, stR b o l (k + 1)) :: (stH b l (k + 1) ++ [some (2, [[.v (.int .i64 o.space), .v (.int .i64 o.page)]]), none])) (by simpa using hE) ?_ ?_
          · rw [← hrs, hsn]
            refine ent_frz1 (n := stN b l k + ((lnT false L).length + ((shT (mdT b) (k + 1) (List.drop (k + 1) l)).length + 1 + 1)) + 1 + 1) (m := O.length + 1) (kc := O.length + 1) (rows := O.map Od.row ++ [[.v (.int .i64 o.space), .v (.int .i64 o.page)]]) (R := stR b o l k) (k := k) (z := .fsl true 3 (L.map Ln.row)) (x0 := some (2, [[.v (.int .i64 o.space), .v (.int .i64 o.page)]])) (A := List.replicate (stN b l k) none ++ (lnT false L ++ (none :: (shT (mdT b) (k + 1) (List.drop (k + 1) l) ++ [some (2, [[.v (.int .i64 o.space), .v (.int .i64 o.page)]])])))) (T := []) (by simp; omega) (by rw [hrl]; exact hk) (by simp) ?_ (by simp) ?_
            · intro r hr
              rcases List.mem_append.1 hr with hr | hr
              · obtain ⟨x, _, rfl⟩ := List.mem_map.1 hr
                exact Od.low 0 x
              · simp at hr; subst hr; rfl
            · simp [shotC, Cpu.hrow, odT, Od.row, e, eO]
              rw [List.take_of_length_le (by simp)]
          · simp [hself]
            intro x hx a ha
            exact List.all_eq_true.1 (hlow x hx) a ha
  · rintro _ hall
    have hall2 : wtB b 0 l = false := by rw [← hall]; simp [wtB]
    rw [hall2]
    have hfin : stR b o l l.length = (shots b o 0 l).map Cpu.hrow := by simp [stR, shR]
    have ht : List.take l.length (List.map Cpu.hrow (shots b o 0 l)) = List.map Cpu.hrow (shots b o 0 l) := List.take_of_length_le (by simp [shots_len])
    simp [Try.ntmps23, Try.results23, cSl, cp0, cp1, cn0, cn1, cI, cD, cF, cA, flE, hfin, shots_len, ht]
end Go.Proofs.Ytdhpgdfjogklaaa
