/- Package tlb: Serve. -/
import Derived.Test.YtdhpgdfjogklaaaTlJ
import Derived.Test.YtdhpgdfjogklaaaTlP
import Derived.Test.YtdhpgdfjogklaaaAiZe
import Derived.Test.YtdhpgdfjogklaaaAiZf
namespace Go.Proofs.Ytdhpgdfjogklaaa
open Go.AI
set_option maxHeartbeats 2000000
set_option maxRecDepth 100000
set_option linter.unusedSimpArgs false
set_option linter.unusedVariables false
attribute [local simp] wpA wpX RunA RunD runF foot footP footB idsA bare apart runL step1 gsel_f gsel_t gsel_s res_same res_and1 res_and2 res_and3 res_and4 res_and5 res_and6 res_false res_true res_v res_ptr res_fptr res_osl res_xsl soft aAppendZ aCap ovlI ovlJ res_fsl res_esl res_agg res_tup res_fn res_junk res_anyb aPick hk imp_left iteV dstOk guardOk astep astepE AI.ev AI.look AI.put envOf aBox cellsOf allOne allOneA oneA Value.oneCell' Value.cells newObj' aFieldAddr aLoad obj readAt thenA blockA condA retA resA tupA view hot hotC hotR depthV cAgg cInt cBool mkAgg allV aAlloc aBuild fillA writeAt aStore isAggA aField idx aIndexAddr aIndex bnd aSlice aExtract aLen aBuiltin aCall isStatic eqAgg eqTy eqC ev_add ev_sub ev_mul ev_quo ev_rem ev_and ev_or ev_xor ev_andNot ev_shl ev_shr ev_eql ev_neq ev_lss ev_leq ev_gtr ev_geq ev_agg w64 wu32 wu8 ev_not ev_neg Cod.plain RCod.plain argM finM cold coldC coldR goInt intDec boolDec aggDec Weaker heapW lowA lowC Again slDec undef aBuildSlice setRows aAppend rowsOf aMakeSlice aClear aCopy softer_self softer_nil valsOf ev_min2 ev_max2 hotR_set hotR_append take_map_set irow_cold irow_mapM irow_mapMc irow_view irow_viewc irow_hotR irow_ren irow_renc irow_low WeakT heapT thOf ren renC AgainT NextF NextT fnDec cFn rNil selfLt natLt0 natLt1 getLastMap frame0 frame1 own0 own1 argG finG tau tauI tauO tauC bareA bareC bareH irow_tau irow_tauc irow_bare irow_flat irow_bareR ownA_nil ownT_nil ownA_c ownT_c ownA_s ownT_s takeMapLen footC plainA noId noIdC cloneF frame0F frame1F insertF replaceI replaceF cellDec rCell fpDec cFp rTwo deleteF allV_oA oneA_oA res_oA RunR RunE runFT footAt hotR_cat tmodN frameN newA newC newH fxSz2 fxBy2 fxAg2 fxZe2 fxSl2 fxAr2 fxPl2 fxSz3 fxBy3 fxAg3 fxZe3 fxSl3 fxAr3 fxPl3 fxSz4 fxBy4 fxAg4 fxZe4 fxSl4 fxAr4 fxPl4 fxSz5 fxBy5 fxAg5 fxZe5 fxSl5 fxAr5 fxPl5 fxSz9 fxBy9 fxAg9 fxZe9 fxSl9 fxAr9 fxPl9 fxSz12 fxBy12 fxAg12 fxZe12 fxSl12 fxAr12 fxPl12 fxSz13 fxBy13 fxAg13 fxZe13 fxSl13 fxAr13 fxFi13x0 fxFi13x1 fxPl13 fxSz21 fxBy21 fxAg21 fxZe21 fxSl21 fxAr21 fxPl21 fxSz22 fxBy22 fxAg22 fxZe22 fxSl22 fxAr22 fxPl22 fxSz23 fxBy23 fxAg23 fxZe23 fxSl23 fxAr23 fxFi23x0 fxFi23x1 fxPl23 fxSz24 fxBy24 fxAg24 fxZe24 fxSl24 fxAr24 fxFi24x0 fxFi24x1 fxPl24 fxSz25 fxBy25 fxAg25 fxZe25 fxSl25 fxAr25 fxPl25 fxSz26 fxBy26 fxAg26 fxZe26 fxSl26 fxAr26 fxPl26 fxSz27 fxBy27 fxAg27 fxZe27 fxSl27 fxAr27 fxFi27x0 fxFi27x1 fxFi27x2 fxFi27x3 fxFi27x4 fxFi27x5 fxFi27x6 fxPl27 fxSz28 fxBy28 fxAg28 fxZe28 fxSl28 fxAr28 fxFi28x0 fxFi28x1 fxFi28x2 fxFi28x3 fxFi28x4 fxFi28x5 fxFi28x6 fxPl28 fxSz29 fxBy29 fxAg29 fxZe29 fxSl29 fxAr29 fxPl29 fxSz44 fxBy44 fxAg44 fxZe44 fxSl44 fxAr44 fxPl44 fxSz45 fxBy45 fxAg45 fxZe45 fxSl45 fxAr45 fxPl45 fxSz52 fxBy52 fxAg52 fxZe52 fxSl52 fxAr52 fxPl52 fxSz54 fxBy54 fxAg54 fxZe54 fxSl54 fxAr54 fxFi54x0 fxFi54x1 fxPl54 fxSz55 fxBy55 fxAg55 fxZe55 fxSl55 fxAr55 fxFi55x0 fxFi55x1 fxPl55 fxSz56 fxBy56 fxAg56 fxZe56 fxSl56 fxAr56 fxPl56 fxSz60 fxBy60 fxAg60 fxZe60 fxSl60 fxAr60 fxPl60 fxSz61 fxBy61 fxAg61 fxZe61 fxSl61 fxAr61 fxPl61 fxSz62 fxBy62 fxAg62 fxZe62 fxSl62 fxAr62 fxFi62x0 fxFi62x1 fxPl62 fxSz63 fxBy63 fxAg63 fxZe63 fxSl63 fxAr63 fxFi63x0 fxFi63x1 fxPl63 fxSz76 fxBy76 fxAg76 fxZe76 fxSl76 fxAr76 fxPl76 fxSz83 fxBy83 fxAg83 fxZe83 fxSl83 fxAr83 fxFi83x0 fxFi83x1 fxFi83x2 fxPl83 fxSz84 fxBy84 fxAg84 fxZe84 fxSl84 fxAr84 fxFi84x0 fxFi84x1 fxFi84x2 fxPl84 fxSz99 fxBy99 fxAg99 fxZe99 fxSl99 fxAr99 fxPl99 fxSz106 fxBy106 fxAg106 fxZe106 fxSl106 fxAr106 fxPl106 fxSz107 fxBy107 fxAg107 fxZe107 fxSl107 fxAr107 fxFi107x0 fxPl107 fxSz113 fxBy113 fxAg113 fxZe113 fxSl113 fxAr113 fxPl113 fxSz118 fxBy118 fxAg118 fxZe118 fxSl118 fxAr118 fxPl118 fxEq28 fxEq55 fxEq56 fxEq84 fxCv2x2 fxCv2x3 fxCv2x5 fxCv2x12 fxCv2x21 fxCv2x29 fxCv2x45 fxCv3x2 fxCv3x3 fxCv3x5 fxCv3x12 fxCv3x21 fxCv3x29 fxCv3x45 fxCv5x2 fxCv5x3 fxCv5x5 fxCv5x12 fxCv5x21 fxCv5x29 fxCv5x45 fxCv12x2 fxCv12x3 fxCv12x5 fxCv12x12 fxCv12x21 fxCv12x29 fxCv12x45 fxCv21x2 fxCv21x3 fxCv21x5 fxCv21x12 fxCv21x21 fxCv21x29 fxCv21x45 fxCv29x2 fxCv29x3 fxCv29x5 fxCv29x12 fxCv29x21 fxCv29x29 fxCv29x45 fxCv45x2 fxCv45x3 fxCv45x5 fxCv45x12 fxCv45x21 fxCv45x29 fxCv45x45 fxEb4 fxNb4 fxLt9 fxLn22 fxNe22 fxNn22 fxOe22 fxOn22 fxXe22 fxXn22 fxLn44 fxNe44 fxNn44 fxOe44 fxOn44 fxXe44 fxXn44 fxLn52 fxNe52 fxNn52 fxOe52 fxOn52 fxXe52 fxXn52 fxLn60 fxNe60 fxNn60 fxOe60 fxOn60 fxXe60 fxXn60 fxLn61 fxNe61 fxNn61 fxOe61 fxOn61 fxXe61 fxXn61 fxLn76 fxNe76 fxNn76 fxOe76 fxOn76 fxXe76 fxXn76 fxFn3 fxFm3 fxFb3 fxFi3 fxFj3 fxFn4 fxFm4 fxFb4 fxFi4 fxFj4 fxFn5 fxFm5 fxFb5 fxFi5 fxFj5 fxFn6 fxFm6 fxFb6 fxFi6 fxFj6 fxFn7 fxFm7 fxFb7 fxFi7 fxFj7 fxFn8 fxFm8 fxFb8 fxFi8 fxFj8 fxFn9 fxFm9 fxFb9 fxFi9 fxFj9 fxFn10 fxFm10 fxFb10 fxFi10 fxFj10 fxFn11 fxFm11 fxFb11 fxFi11 fxFj11 fxFn12 fxFm12 fxFb12 fxFi12 fxFj12 fxFn13 fxFm13 fxFb13 fxFi13 fxFj13 fxFn14 fxFm14 fxFb14 fxFi14 fxFj14 fxFn15 fxFm15 fxFb15 fxFi15 fxFj15 fxFn16 fxFm16 fxFb16 fxFi16 fxFj16 fxFn17 fxFm17 fxFb17 fxFi17 fxFj17 fxFn18 fxFm18 fxFb18 fxFi18 fxFj18 fxFn19 fxFm19 fxFb19 fxFi19 fxFj19 fxFn20 fxFm20 fxFb20 fxFi20 fxFj20 fxFn21 fxFm21 fxFb21 fxFi21 fxFj21 fxFn22 fxFm22 fxFb22 fxFi22 fxFj22 fxFn23 fxFm23 fxFb23 fxFi23 fxFj23 fxFn24 fxFm24 fxFb24 fxFi24 fxFj24 fxFn25 fxFm25 fxFb25 fxFi25 fxFj25 fxFn26 fxFm26 fxFb26 fxFi26 fxFj26 fxFn27 fxFm27 fxFb27 fxFi27 fxFj27 fxFn28 fxFm28 fxFb28 fxFi28 fxFj28 fxFn29 fxFm29 fxFb29 fxFi29 fxFj29 fxFn30 fxFm30 fxFb30 fxFi30 fxFj30 fxFn31 fxFm31 fxFb31 fxFi31 fxFj31 fxFn32 fxFm32 fxFb32 fxFi32 fxFj32 fxFn33 fxFm33 fxFb33 fxFi33 fxFj33 fxFn34 fxFm34 fxFb34 fxFi34 fxFj34 fxFn35 fxFm35 fxFb35 fxFi35 fxFj35 fxFn36 fxFm36 fxFb36 fxFi36 fxFj36 fxFn37 fxFm37 fxFb37 fxFi37 fxFj37 fxFn38 fxFm38 fxFb38 fxFi38 fxFj38 fxFn39 fxFm39 fxFb39 fxFi39 fxFj39 fxFn40 fxFm40 fxFb40 fxFi40 fxFj40 fxFn41 fxFm41 fxFb41 fxFi41 fxFj41 fxFn42 fxFm42 fxFb42 fxFi42 fxFj42 fxFn43 fxFm43 fxFb43 fxFi43 fxFj43 fxFn44 fxFm44 fxFb44 fxFi44 fxFj44 fxFn45 fxFm45 fxFb45 fxFi45 fxFj45 fxFn46 fxFm46 fxFb46 fxFi46 fxFj46 fxFn47 fxFm47 fxFb47 fxFi47 fxFj47 fxFn48 fxFm48 fxFb48 fxFi48 fxFj48 fxFn49 fxFm49 fxFb49 fxFi49 fxFj49 fxFn50 fxFm50 fxFb50 fxFi50 fxFj50 fxFn51 fxFm51 fxFb51 fxFi51 fxFj51 fxFn52 fxFm52 fxFb52 fxFi52 fxFj52 fxFn53 fxFm53 fxFb53 fxFi53 fxFj53 fxFn54 fxFm54 fxFb54 fxFi54 fxFj54 fxFn55 fxFm55 fxFb55 fxFi55 fxFj55 fxFn56 fxFm56 fxFb56 fxFi56 fxFj56 fxFn57 fxFm57 fxFb57 fxFi57 fxFj57 fxFn58 fxFm58 fxFb58 fxFi58 fxFj58 fxFn59 fxFm59 fxFb59 fxFi59 fxFj59 fxFn60 fxFm60 fxFb60 fxFi60 fxFj60
attribute [local simp] Ln.eta Ln.cold Ln.mapM Ln.mapMc Ln.view Ln.viewc Ln.hotR Ln.ren Ln.renc Ln.low Ln.tau Ln.tauc Ln.bare Ln.flat Ln.flat1 Ln.mapMt Ln.mapMd Ln.coldt Ln.coldd Ln.hotRt Ln.hotRd
attribute [local simp] Od.eta Od.cold Od.mapM Od.mapMc Od.view Od.viewc Od.hotR Od.ren Od.renc Od.low Od.tau Od.tauc Od.bare Od.flat Od.flat1 Od.mapMt Od.mapMd Od.coldt Od.coldd Od.hotRt Od.hotRd
attribute [local simp] Cpu.eta Cpu.dec_row Cpu.dec_hrow Cpu.cold Cpu.hcold Cpu.mapM Cpu.mapMc Cpu.hmapM Cpu.hmapMc Cpu.view Cpu.viewc Cpu.hview Cpu.hviewc Cpu.hotR Cpu.ren Cpu.renc Cpu.low Cpu.hlow
theorem odDel : InlOk Try.prog 58 (deleteI 2) := by
  refine delete_of (z := [.v (.int .i64 0), .v (.int .i64 0)]) Try.func58 rfl (by simp [Try.ntmps58]) ?_
  intro H id i rows h1 h2 h3 h4
  refine wpA_sound noOrc_ok fxMix _ _ _ _ (by kernel_rfl) ?_
  have h1' := obj_get h1
  have g1 := (List.getElem?_eq_some_iff.1 h1').2
  have c1 : (i : Int) + 1 ≤ rows.length := by omega
  have c2 : 0 ≤ (i : Int) + 1 := by omega
  have c3 : (i : Int) ≤ i + 1 := by omega
  have c4 : i ≤ rows.length := by omega
  have c5 : i + 1 ≤ rows.length := by omega
  have c6 : i + 1 + (rows.length - (i + 1)) ≤ rows.length := by omega
  have c7 : i + (rows.length - (i + 1)) ≤ rows.length := by omega
  have c8 : i + (rows.length - (i + 1)) = rows.length - 1 := by omega
  have c9 : rows.length - 1 ≤ rows.length := by omega
  have d1 : ¬ ((i : Int) = i + 1) := by omega
  have d2 : List.take (rows.length - (i + 1)) (List.drop (i + 1) rows) = List.drop (i + 1) rows := List.take_of_length_le (by simp)
  have d3 : rows.length - (rows.length - 1) = 1 := by omega
  have d4 : (rows.length - 1) + 1 = rows.length := by omega
  have d5 : ¬ rows.length = i := by omega
  have d6 : ¬ rows.length = 0 := by omega
  have d7 : rows.length ≤ 4294967296 := by omega
  have d8 : i + (rows.length - (i + 1)) ≤ 4294967296 := by omega
  have f1 : rows.length ≤ 4294967297 := by omega
  have f2 : rows.length ≤ i + (rows.length - (i + 1) + 1) := by omega
  have d9 : ∀ X : List Row, List.take (rows.length - 1) (List.take i rows ++ (List.drop (i + 1) rows ++ X)) = List.take i rows ++ List.drop (i + 1) rows := by
    intro X
    rw [← List.append_assoc, List.take_append_of_le_length (by simp; omega), List.take_of_length_le (by simp; omega)]
  have e1 : List.drop rows.length (List.take i rows ++ (List.drop (i + 1) rows ++ List.drop (rows.length - 1) rows)) = [] := List.drop_eq_nil_of_le (by simp; omega)
  have e2 : rows.length - 1 ≤ i + (rows.length - (i + 1) + 1) := by omega
  have e3 : min i rows.length = i := by omega
  have e4 : ((rows.length - 1 : Nat) : Int) ≤ rows.length := by omega
  simp [Try.ntmps58, Try.results58, noOrc, h1', h2, h3, g1, c1, c2, c3, c4, c5, c6, c7, c8, c9, d1, d2, d3, d4, d5, d6, d7, d8, d9, e1, e2, e3, e4, f1, f2]
def mdS (j : Nat) : Mode := fun i => (i == j, i == j)
def srvE (l : List Cpu) (cpu : Int) : AVal :=
  if tlChk l cpu = 0 then .tup [.fsl true 2 ((l.set cpu.toNat (srv1 (cpuAt l cpu))).map Cpu.hrow), .v (.bool (!(cpuAt l cpu).orders.isEmpty)), .v (.int .i64 0)]
  else .v (.tuple #[.slice none 0 0, .bool false, .int .i64 (tlChk l cpu)])
theorem get1 {a x : Option (Nat × List Row)} {A B : Heap} : (a :: (A ++ (x :: B)))[1 + A.length]? = some x := by
  rw [Nat.add_comm]; simp
theorem set1 {a x y : Option (Nat × List Row)} {A B : Heap} : (a :: (A ++ (x :: B))).set (1 + A.length) y = a :: (A ++ (y :: B)) := by
  rw [Nat.add_comm]; simp
theorem get1' {a x z : Option (Nat × List Row)} {A B : Heap} : (a :: (A ++ (z :: x :: B)))[1 + A.length + 1]? = some x := by
  rw [Nat.add_comm 1]; simp
theorem set1' {a x y z : Option (Nat × List Row)} {A B : Heap} : (a :: (A ++ (z :: x :: B))).set (1 + A.length + 1) y = a :: (A ++ (z :: y :: B)) := by
  rw [Nat.add_comm 1]; simp
theorem get0' {x z : Option (Nat × List Row)} {A B : Heap} : (A ++ (z :: x :: B))[1 + A.length]? = some x := by
  rw [Nat.add_comm 1]; simp
theorem set0' {x y z : Option (Nat × List Row)} {A B : Heap} : (A ++ (z :: x :: B)).set (1 + A.length) y = A ++ (z :: y :: B) := by
  rw [Nat.add_comm 1]; simp
/-- the processors, one of them known a little less -/
theorem sof_set {l : List Cpu} {k : Nat} {c : Cpu} {a b : AVal} (ha : Sof (.fsl true 3 (c.lines.map Ln.row)) a) (hb : Sof (.fsl true 2 (c.orders.map Od.row)) b) :
    Sof (.fsl true 2 ((l.set k c).map Cpu.hrow)) (.fsl true 2 ((l.map Cpu.hrow).set k [a, b])) := by
  refine .fsl (by simp) (fun r hr => by obtain ⟨x, _, rfl⟩ := List.mem_map.1 hr; rfl) ?_
  intro i r x hr hx j u v hu hv
  by_cases e : i = k
  · subst e
    have hi : i < l.length := by have := (List.getElem?_eq_some_iff.1 hx).1; simpa using this
    rw [List.getElem?_map, List.getElem?_set_self hi] at hr
    rw [List.getElem?_set_self (by simpa using hi)] at hx
    simp only [Option.map_some, Option.some.injEq] at hr hx
    subst hr; subst hx
    match j with
    | 0 => simp [Cpu.hrow] at hu hv; subst hu; subst hv; exact ha
    | 1 => simp [Cpu.hrow] at hu hv; subst hu; subst hv; exact hb
    | j + 2 => simp at hv
  · rw [List.getElem?_map, List.getElem?_set_ne (fun h => e h.symm)] at hr
    rw [List.getElem?_set_ne (fun h => e h.symm), List.getElem?_map] at hx
    rw [hr] at hx
    cases hx
    rw [hu] at hv
    cases hv
    exact .refl _
theorem vset_self {md : Mode} {H : Heap} {d c k : Nat} {l : List Cpu} {r : Row} (h : ∀ j, 0 + j ≠ 0 + k → md (0 + j) = (false, false)) (hk : k < (shR md 0 c l).length) (hv : List.map (view H (d + 1)) (shR md 0 c l)[k] = r) :
    List.map (fun r => List.map (view H (d + 1)) r) (shR md 0 c l) = (l.map Cpu.hrow).set k r := by
  subst hv
  rw [← shR_vset h (H := H) (d := d) (c := c), ← List.getElem_map (f := fun r => List.map (view H (d + 1)) r) (h := by simpa using hk), List.set_getElem_self]
theorem shows_cpus {H : Heap} {rows : List Row} {l : List Cpu} {k n : Nat} {c : Cpu} {a b : AVal} (hob : obj H 0 = some (2, rows)) (hlen : rows.length = n) (hv : rows.map (fun r => List.map (view H 2) r) = (l.map Cpu.hrow).set k [a, b])
    (ha : Sof (.fsl true 3 (c.lines.map Ln.row)) a) (hb : Sof (.fsl true 2 (c.orders.map Od.row)) b) (ha2 : hot a = true) (hb2 : hot b = true) : ShowsA H 3 (.fsl true 2 ((l.map Cpu.hrow).set k c.hrow)) (.osl 0 2 0 n n) := by
  subst hlen
  have e : view H 3 (.osl 0 2 0 rows.length rows.length) = .fsl true 2 ((l.map Cpu.hrow).set k [a, b]) := by
    have ht : (rows.drop 0).take rows.length = rows := List.take_of_length_le (by simp)
    simp only [view, hob, Nat.zero_add, Nat.le_refl, and_self, if_true, ht]
    rw [← hv]
  refine ⟨?_, ?_⟩
  · rw [e, ← List.map_set]
    exact sof_set ha hb
  · rw [e]
    simp only [hot, Bool.true_or, Bool.true_and]
    exact hotR_set (Cpu.hotR l) (by simp [hotC, ha2, hb2])
theorem tlServe_pure : PureOk Try.prog 46 (argM (cSl rCpu) fun l => argM (cInt .i64) fun cpu => finM (some (srvE l cpu))) := by
  refine pureS2 Try.func46 rfl ?_
  rintro l cpu r' hr
  simp only [Option.some.injEq] at hr
  subst hr
  refine bodyS_of ((((noOrc_ok.withP tlChk_pure).withIF (cpy_inl (mdS cpu.toNat)) frameN_loc).withI forget_inl).withIF odDel delete_loc) fxMix (by kernel_rfl) (by simp [Try.ntmps46]) ?_
  intro C cP cI cN cD cF cA
  have cp0 := orcP tlChk_pure (C := C) (by rw [cP]; rfl)
  have cn0 := orcI (cpy_inl (mdS cpu.toNat)) (C := C) (by rw [cN]; rfl)
  have cn1 := orcI forget_inl (C := C) (by rw [cN]; rfl)
  have cn2 := orcI odDel (C := C) (by rw [cN]; rfl)
  replace cI := fun g => congrFun cI g
  simp only [Orc.withP, Orc.withI, Orc.withF, Orc.withD, Orc.withA, noOrc] at cI
  replace cD : C.dyn = fun _ => [] := cD
  clear cP cN cF cA
  unfold srvE
  by_cases h0 : tlChk l cpu = 0
  case neg =>
    simp [Try.ntmps46, Try.results46, cSl, cp0, cn0, cn1, cn2, cI, cD, rCpu, cpuDec, Cpu.row, rLn, lnDec, rOd, odDec, h0]
    exact showsV _
  obtain ⟨g0, g1, g2⟩ := tlChk_iff.1 h0
  obtain ⟨k, rfl⟩ := Int.eq_ofNat_of_zero_le g1
  have hk : k < l.length := by omega
  obtain ⟨l1, l2, l3⟩ := tlCheck_iff.1 g0
  have hcp : (∀ c ∈ l, c.lines.length ≤ 8 ∧ c.orders.length ≤ 4) = True := eq_true fun c hc => cpuE_len (l3 c hc)
  have hg := shR_get (md := mdS k) (c := 1) hk
  have hgl := shR_len (mdS k) 0 1 l
  have hsp := shT_split (md := mdS k) hk
  have hoth : ∀ j, 0 + j ≠ 0 + k → mdS k (0 + j) = (false, false) := by intro j hj; simp [mdS]; omega
  have hmd : mdS k k = (true, true) := by simp [mdS]
  rw [hmd] at hg hsp
  rw [cpuAt_nat hk]
  generalize shT (mdS k) 0 (l.take k) = A at hg hsp
  generalize shT (mdS k) (k + 1) (l.drop (k + 1)) = B at hsp
  generalize hck : l[k] = c at *
  obtain ⟨L, O⟩ := c
  have hg2 : (shR (mdS k) 0 1 l)[k]'(by rw [hgl]; exact hk) = segR (true, true) (1 + A.length) ⟨L, O⟩ := by
    rw [List.getElem?_eq_getElem (by rw [hgl]; exact hk)] at hg
    exact Option.some.inj hg
  have hL8 : L.length ≤ 8 := (cpuE_len (l3 ⟨L, O⟩ (hck ▸ List.getElem_mem hk))).1
  have hO4 : O.length ≤ 4 := (cpuE_len (l3 ⟨L, O⟩ (hck ▸ List.getElem_mem hk))).2
  have hL9 : L.length ≤ 1048576 := by omega
  simp [Try.ntmps46, Try.results46, cSl, cp0, cn0, cn1, cn2, cI, cD, rCpu, cpuDec, Cpu.row, rLn, lnDec, rOd, odDec, h0, l1, l2, hcp, shR_tau, shT_tau, shR_new, shT_new]
  rw [hsp]
  have hpos : L ≠ [] → 0 < L.length := List.length_pos_iff.2
  by_cases e : L = []
  · subst e
    cases O with
    | nil =>
      simp [Try.ntmps46, Try.results46, cSl, cp0, cn0, cn1, cn2, cI, cD, hk, hgl, hg2, segR, lnA, odA, lnT, odT]
      refine showsT3 (shows_cpus (a := .esl) (b := .esl) rfl hgl (vset_self hoth (by rw [hgl]; exact hk) ?_) ?_ ?_ ?_ ?_) (showsV _) (showsV _)
      · simp [hg2, segR, lnA, odA]
      · exact .esl
      · exact .esl
      · rfl
      · rfl
    | cons o O =>
      have hO5 : O.length ≤ 1048575 := by simp at hO4; omega
      simp [Try.ntmps46, Try.results46, cSl, cp0, cn0, cn1, cn2, cI, cD, hk, hgl, hg2, segR, lnA, odA, lnT, odT, deleteI, hO5, get1, set1, rOd, odDec, Od.row, rLn, lnDec, Ln.row]
      refine showsT3 (shows_cpus (a := .esl) (b := .fsl true 2 (O.map Od.row)) rfl (by rw [List.length_set]; exact hgl) ?_ ?_ ?_ ?_ ?_) (showsV _) (showsV _)
      · simp [shR_vset hoth, get1]
      · exact .esl
      · exact .refl _
      · rfl
      · simp [hot]
  · have hps : 0 < L.length := hpos e
    cases O with
    | nil =>
      simp [Try.ntmps46, Try.results46, cSl, cp0, cn0, cn1, cn2, cI, cD, hk, hgl, hg2, segR, lnA, odA, lnT, odT, e]
      refine showsT3 (shows_cpus (a := .fsl true 3 (L.map Ln.row)) (b := .esl) rfl hgl (vset_self hoth (by rw [hgl]; exact hk) ?_) ?_ ?_ ?_ ?_) (showsV _) (showsV _)
      · simp [hg2, segR, lnA, odA, e, get1]
      · exact .refl _
      · exact .esl
      · simp [hot]
      · rfl
    | cons o O =>
      have hO5 : O.length ≤ 1048575 := by simp at hO4; omega
      simp [Try.ntmps46, Try.results46, cSl, cp0, cn0, cn1, cn2, cI, cD, hk, hgl, hg2, segR, lnA, odA, lnT, odT, e, hps, deleteI, zLn, hO5, hL9, get1, set1, get1', set1', get0', set0', rOd, odDec, Od.row, rLn, lnDec, Ln.row]
      refine showsT3 (shows_cpus (a := .fsl true 3 ((forg o L).map Ln.row)) (b := .fsl true 2 (O.map Od.row)) rfl (by rw [List.length_set]; exact hgl) ?_ ?_ ?_ ?_ ?_) (showsV _) (showsV _)
      · simp [shR_vset hoth, get1, get1', get0']
      · exact .refl _
      · exact .refl _
      · simp [hot]
      · simp [hot]
end Go.Proofs.Ytdhpgdfjogklaaa
