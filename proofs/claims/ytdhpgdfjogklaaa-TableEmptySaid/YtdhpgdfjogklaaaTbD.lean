/- Package table: split, clean, Set, Join, Split, Size. -/
import Derived.Test.YtdhpgdfjogklaaaTbC
import Derived.Test.YtdhpgdfjogklaaaAiZe
import Derived.Test.YtdhpgdfjogklaaaAiZg
namespace Go.Proofs.Ytdhpgdfjogklaaa
open Go.AI
set_option maxHeartbeats 2000000
set_option maxRecDepth 100000
set_option linter.unusedSimpArgs false
set_option linter.unusedVariables false
attribute [local simp] wpA wpX RunA RunD runF foot footP footB idsA bare apart runL step1 gsel_f gsel_t gsel_s res_same res_and1 res_and2 res_and3 res_and4 res_and5 res_and6 res_false res_true res_v res_ptr res_fptr res_osl res_xsl soft aAppendZ aCap ovlI ovlJ res_fsl res_esl res_agg res_tup res_fn res_junk res_anyb aPick hk imp_left iteV dstOk guardOk astep astepE AI.ev AI.look AI.put envOf aBox cellsOf allOne allOneA oneA Value.oneCell' Value.cells newObj' aFieldAddr aLoad obj readAt thenA blockA condA retA resA tupA view hot hotC hotR depthV cAgg cInt cBool mkAgg allV aAlloc aBuild fillA writeAt aStore isAggA aField idx aIndexAddr aIndex bnd aSlice aExtract aLen aBuiltin aCall isStatic eqAgg eqTy eqC ev_add ev_sub ev_mul ev_quo ev_rem ev_and ev_or ev_xor ev_andNot ev_shl ev_shr ev_eql ev_neq ev_lss ev_leq ev_gtr ev_geq ev_agg w64 wu32 wu8 ev_not ev_neg Cod.plain RCod.plain argM finM cold coldC coldR goInt intDec boolDec aggDec Weaker heapW lowA lowC Again slDec undef aBuildSlice setRows aAppend rowsOf aMakeSlice aClear aCopy softer_self softer_nil valsOf ev_min2 ev_max2 hotR_set hotR_append take_map_set irow_cold irow_mapM irow_mapMc irow_view irow_viewc irow_hotR irow_ren irow_renc irow_low WeakT heapT thOf ren renC AgainT NextF NextT fnDec cFn rNil selfLt natLt0 natLt1 getLastMap frame0 frame1 own0 own1 argG finG tau tauI tauO tauC bareA bareC bareH irow_tau irow_tauc irow_bare irow_flat irow_bareR ownA_nil ownT_nil ownA_c ownT_c ownA_s ownT_s takeMapLen footC plainA noId noIdC cloneF frame0F frame1F insertF replaceI replaceF cellDec rCell fpDec cFp rTwo deleteF allV_oA oneA_oA res_oA RunR RunE runFT footAt hotR_cat tmodN frameN newA newC newH fxSz2 fxBy2 fxAg2 fxZe2 fxSl2 fxAr2 fxPl2 fxSz3 fxBy3 fxAg3 fxZe3 fxSl3 fxAr3 fxPl3 fxSz4 fxBy4 fxAg4 fxZe4 fxSl4 fxAr4 fxPl4 fxSz5 fxBy5 fxAg5 fxZe5 fxSl5 fxAr5 fxPl5 fxSz9 fxBy9 fxAg9 fxZe9 fxSl9 fxAr9 fxPl9 fxSz12 fxBy12 fxAg12 fxZe12 fxSl12 fxAr12 fxPl12 fxSz13 fxBy13 fxAg13 fxZe13 fxSl13 fxAr13 fxFi13x0 fxFi13x1 fxPl13 fxSz21 fxBy21 fxAg21 fxZe21 fxSl21 fxAr21 fxPl21 fxSz22 fxBy22 fxAg22 fxZe22 fxSl22 fxAr22 fxPl22 fxSz23 fxBy23 fxAg23 fxZe23 fxSl23 fxAr23 fxFi23x0 fxFi23x1 fxPl23 fxSz24 fxBy24 fxAg24 fxZe24 fxSl24 fxAr24 fxFi24x0 fxFi24x1 fxPl24 fxSz25 fxBy25 fxAg25 fxZe25 fxSl25 fxAr25 fxPl25 fxSz26 fxBy26 fxAg26 fxZe26 fxSl26 fxAr26 fxPl26 fxSz27 fxBy27 fxAg27 fxZe27 fxSl27 fxAr27 fxFi27x0 fxFi27x1 fxFi27x2 fxFi27x3 fxFi27x4 fxFi27x5 fxFi27x6 fxPl27 fxSz28 fxBy28 fxAg28 fxZe28 fxSl28 fxAr28 fxFi28x0 fxFi28x1 fxFi28x2 fxFi28x3 fxFi28x4 fxFi28x5 fxFi28x6 fxPl28 fxSz29 fxBy29 fxAg29 fxZe29 fxSl29 fxAr29 fxPl29 fxSz44 fxBy44 fxAg44 fxZe44 fxSl44 fxAr44 fxPl44 fxSz45 fxBy45 fxAg45 fxZe45 fxSl45 fxAr45 fxPl45 fxSz52 fxBy52 fxAg52 fxZe52 fxSl52 fxAr52 fxPl52 fxSz54 fxBy54 fxAg54 fxZe54 fxSl54 fxAr54 fxFi54x0 fxFi54x1 fxPl54 fxSz55 fxBy55 fxAg55 fxZe55 fxSl55 fxAr55 fxFi55x0 fxFi55x1 fxPl55 fxSz56 fxBy56 fxAg56 fxZe56 fxSl56 fxAr56 fxPl56 fxSz60 fxBy60 fxAg60 fxZe60 fxSl60 fxAr60 fxPl60 fxSz61 fxBy61 fxAg61 fxZe61 fxSl61 fxAr61 fxPl61 fxSz62 fxBy62 fxAg62 fxZe62 fxSl62 fxAr62 fxFi62x0 fxFi62x1 fxPl62 fxSz63 fxBy63 fxAg63 fxZe63 fxSl63 fxAr63 fxFi63x0 fxFi63x1 fxPl63 fxSz76 fxBy76 fxAg76 fxZe76 fxSl76 fxAr76 fxPl76 fxSz83 fxBy83 fxAg83 fxZe83 fxSl83 fxAr83 fxFi83x0 fxFi83x1 fxFi83x2 fxPl83 fxSz84 fxBy84 fxAg84 fxZe84 fxSl84 fxAr84 fxFi84x0 fxFi84x1 fxFi84x2 fxPl84 fxSz99 fxBy99 fxAg99 fxZe99 fxSl99 fxAr99 fxPl99 fxSz106 fxBy106 fxAg106 fxZe106 fxSl106 fxAr106 fxPl106 fxSz107 fxBy107 fxAg107 fxZe107 fxSl107 fxAr107 fxFi107x0 fxPl107 fxSz113 fxBy113 fxAg113 fxZe113 fxSl113 fxAr113 fxPl113 fxSz118 fxBy118 fxAg118 fxZe118 fxSl118 fxAr118 fxPl118 fxEq28 fxEq55 fxEq56 fxEq84 fxCv2x2 fxCv2x3 fxCv2x5 fxCv2x12 fxCv2x21 fxCv2x29 fxCv2x45 fxCv3x2 fxCv3x3 fxCv3x5 fxCv3x12 fxCv3x21 fxCv3x29 fxCv3x45 fxCv5x2 fxCv5x3 fxCv5x5 fxCv5x12 fxCv5x21 fxCv5x29 fxCv5x45 fxCv12x2 fxCv12x3 fxCv12x5 fxCv12x12 fxCv12x21 fxCv12x29 fxCv12x45 fxCv21x2 fxCv21x3 fxCv21x5 fxCv21x12 fxCv21x21 fxCv21x29 fxCv21x45 fxCv29x2 fxCv29x3 fxCv29x5 fxCv29x12 fxCv29x21 fxCv29x29 fxCv29x45 fxCv45x2 fxCv45x3 fxCv45x5 fxCv45x12 fxCv45x21 fxCv45x29 fxCv45x45 fxEb4 fxNb4 fxLt9 fxLn22 fxNe22 fxNn22 fxOe22 fxOn22 fxXe22 fxXn22 fxLn44 fxNe44 fxNn44 fxOe44 fxOn44 fxXe44 fxXn44 fxLn52 fxNe52 fxNn52 fxOe52 fxOn52 fxXe52 fxXn52 fxLn60 fxNe60 fxNn60 fxOe60 fxOn60 fxXe60 fxXn60 fxLn61 fxNe61 fxNn61 fxOe61 fxOn61 fxXe61 fxXn61 fxLn76 fxNe76 fxNn76 fxOe76 fxOn76 fxXe76 fxXn76 fxFn3 fxFm3 fxFb3 fxFi3 fxFj3 fxFn4 fxFm4 fxFb4 fxFi4 fxFj4 fxFn5 fxFm5 fxFb5 fxFi5 fxFj5 fxFn6 fxFm6 fxFb6 fxFi6 fxFj6 fxFn7 fxFm7 fxFb7 fxFi7 fxFj7 fxFn8 fxFm8 fxFb8 fxFi8 fxFj8 fxFn9 fxFm9 fxFb9 fxFi9 fxFj9 fxFn10 fxFm10 fxFb10 fxFi10 fxFj10 fxFn11 fxFm11 fxFb11 fxFi11 fxFj11 fxFn12 fxFm12 fxFb12 fxFi12 fxFj12 fxFn13 fxFm13 fxFb13 fxFi13 fxFj13 fxFn14 fxFm14 fxFb14 fxFi14 fxFj14 fxFn15 fxFm15 fxFb15 fxFi15 fxFj15 fxFn16 fxFm16 fxFb16 fxFi16 fxFj16 fxFn17 fxFm17 fxFb17 fxFi17 fxFj17 fxFn18 fxFm18 fxFb18 fxFi18 fxFj18 fxFn19 fxFm19 fxFb19 fxFi19 fxFj19 fxFn20 fxFm20 fxFb20 fxFi20 fxFj20 fxFn21 fxFm21 fxFb21 fxFi21 fxFj21 fxFn22 fxFm22 fxFb22 fxFi22 fxFj22 fxFn23 fxFm23 fxFb23 fxFi23 fxFj23 fxFn24 fxFm24 fxFb24 fxFi24 fxFj24 fxFn25 fxFm25 fxFb25 fxFi25 fxFj25 fxFn26 fxFm26 fxFb26 fxFi26 fxFj26 fxFn27 fxFm27 fxFb27 fxFi27 fxFj27 fxFn28 fxFm28 fxFb28 fxFi28 fxFj28 fxFn29 fxFm29 fxFb29 fxFi29 fxFj29 fxFn30 fxFm30 fxFb30 fxFi30 fxFj30 fxFn31 fxFm31 fxFb31 fxFi31 fxFj31 fxFn32 fxFm32 fxFb32 fxFi32 fxFj32 fxFn33 fxFm33 fxFb33 fxFi33 fxFj33 fxFn34 fxFm34 fxFb34 fxFi34 fxFj34 fxFn35 fxFm35 fxFb35 fxFi35 fxFj35 fxFn36 fxFm36 fxFb36 fxFi36 fxFj36 fxFn37 fxFm37 fxFb37 fxFi37 fxFj37 fxFn38 fxFm38 fxFb38 fxFi38 fxFj38 fxFn39 fxFm39 fxFb39 fxFi39 fxFj39 fxFn40 fxFm40 fxFb40 fxFi40 fxFj40 fxFn41 fxFm41 fxFb41 fxFi41 fxFj41 fxFn42 fxFm42 fxFb42 fxFi42 fxFj42 fxFn43 fxFm43 fxFb43 fxFi43 fxFj43 fxFn44 fxFm44 fxFb44 fxFi44 fxFj44 fxFn45 fxFm45 fxFb45 fxFi45 fxFj45 fxFn46 fxFm46 fxFb46 fxFi46 fxFj46 fxFn47 fxFm47 fxFb47 fxFi47 fxFj47 fxFn48 fxFm48 fxFb48 fxFi48 fxFj48 fxFn49 fxFm49 fxFb49 fxFi49 fxFj49 fxFn50 fxFm50 fxFb50 fxFi50 fxFj50 fxFn51 fxFm51 fxFb51 fxFi51 fxFj51 fxFn52 fxFm52 fxFb52 fxFi52 fxFj52 fxFn53 fxFm53 fxFb53 fxFi53 fxFj53 fxFn54 fxFm54 fxFb54 fxFi54 fxFj54 fxFn55 fxFm55 fxFb55 fxFi55 fxFj55 fxFn56 fxFm56 fxFb56 fxFi56 fxFj56 fxFn57 fxFm57 fxFb57 fxFi57 fxFj57 fxFn58 fxFm58 fxFb58 fxFi58 fxFj58 fxFn59 fxFm59 fxFb59 fxFi59 fxFj59 fxFn60 fxFm60 fxFb60 fxFi60 fxFj60
attribute [local simp] Entry.eta Entry.cold Entry.mapM Entry.mapMc Entry.view Entry.viewc Entry.hotR Entry.ren Entry.renc Entry.low Entry.tau Entry.tauc Entry.bare Entry.flat Entry.flat1 Entry.mapMt Entry.mapMd Entry.coldt Entry.coldd Entry.hotRt Entry.hotRd
attribute [local simp] Nd.eta Nd.dec_row Nd.dec_hrow Nd.cold Nd.hcold Nd.mapM Nd.mapMc Nd.hmapM Nd.hmapMc Nd.view Nd.viewc Nd.hview Nd.hviewc Nd.hotR Nd.ren Nd.renc Nd.low Nd.hlow
attribute [local simp] tb_write tb_hwrite tb_allV tb_hallV tb_len tb_hlen tb_all tb_hall tb_one tb_hone tb_low tb_hlow tb_lowC tb_hlowC tb_view tb_hview tb_cold tb_hcold tb_hot Tb.dec_row Tb.dec_hrow
def spE (n : Nd) (k : Nat) : List Entry := (List.range 8).map fun j => if j < k then atN n j else noEnt
theorem spE_len (n : Nd) (k : Nat) : (spE n k).length = 8 := by simp [spE]
theorem spE_get {n : Nd} {k j : Nat} (hj : j < 8) : (spE n k)[j]? = some (if j < k then atN n j else noEnt) := by simp [spE, hj]
theorem spE_set {n : Nd} {k : Nat} (hk : k < 8) : (spE n k).set k (atN n k) = spE n (k + 1) := by
  apply List.ext_getElem?
  intro i
  by_cases hi : i < 8
  · rw [spE_get hi]
    by_cases e : i = k
    · subst e; rw [List.getElem?_set_self (by rw [spE_len]; exact hi), if_pos (by omega)]
    · rw [List.getElem?_set_ne (fun h => e h.symm), spE_get hi]
      by_cases h : i < k
      · rw [if_pos h, if_pos (by omega)]
      · rw [if_neg h, if_neg (by omega)]
  · rw [List.getElem?_eq_none (by rw [List.length_set, spE_len]; omega), List.getElem?_eq_none (by rw [spE_len]; omega)]
theorem spE_zero (n : Nd) : spE n 0 = List.replicate 8 noEnt := by
  apply List.ext_getElem?
  intro i
  by_cases hi : i < 8
  · rw [spE_get hi, List.getElem?_replicate, if_pos hi]; rfl
  · rw [List.getElem?_eq_none (by rw [spE_len]; omega), List.getElem?_eq_none (by simp; omega)]
abbrev sp8 (n : Nd) : List Entry := spE n 8
theorem split_own : InlOk Try.prog 31 (own0 (argG (cAgg rNd) fun n => finG (if shape n = true then some ((.agg [.v (.bool false), .osl 2 7 0 8 8], [none, none, some (7, (sp8 n).map Entry.row)])) else none))) := by
  refine own0_1 Try.func31 rfl ?_
  rintro n r H' hr
  by_cases hc : shape n = true
  case neg => rw [if_neg hc] at hr; cases hr
  rw [if_pos hc] at hr
  simp only [Option.some.injEq, Prod.mk.injEq] at hr
  obtain ⟨rfl, rfl⟩ := hr
  refine bodyI_w (noOrc_ok.withP at_pure) fxMix (by kernel_rfl) (by simp [Try.ntmps31]) ?_
  intro C cP cI cN cD cF cA
  have cp0 := orcP at_pure (C := C) (by rw [cP]; rfl)
  replace cI : C.inl = fun _ => false := cI
  replace cD : C.dyn = fun _ => [] := cD
  clear cP cN cF cA
  obtain ⟨h, L⟩ := n
  simp [Try.ntmps31, Try.results31, cSl, cp0, cI, cD, rNd]
  refine loop_for 8 (fun k (_ : Unit) => ([(1, .ptr 0 2 0 0), (2, .ptr 1 2 0 0), (3, .osl 2 7 0 8 8), (7, .v (.int .i64 8)), (8, .v (.int .i64 k))], [some (2, [Nd.row ⟨h, L⟩]), some (2, [[.v (.bool false), .v (.slice none 0 0)]]), some (7, (spE ⟨h, L⟩ k).map Entry.row)])) (fun _ _ => True) () (by omega) trivial ?_ ?_ ?_
  · rw [spE_zero]
    simp [noEnt, Entry.row, Nd.row]
  · rintro k _ hk _ hw
    have hki : (k : Int) < 8 := by omega
    have hsl := spE_len ⟨h, L⟩ k
    have hst := spE_set (n := ⟨h, L⟩) hk
    have hms : ((spE ⟨h, L⟩ k).map Entry.row).set k (atN ⟨h, L⟩ k).row = (spE ⟨h, L⟩ (k + 1)).map Entry.row := by rw [← hst, List.map_set]
    have hgk : ((spE ⟨h, L⟩ k).map Entry.row)[k]? = some (Entry.row ((spE ⟨h, L⟩ k)[k]'(by omega))) := by simp [hsl, hk]
    simp only [Entry.row] at hms
    simp [Try.ntmps31, Try.results31, cSl, cp0, cI, cD, hk, hki, hw, hsl, hc, rNd, ndDec, rEnt, Nd.row, Entry.row, Entry.val, hms]
    done
  · rintro _ _
    simp [Try.ntmps31, Try.results31, cSl, cp0, cI, cD, Nd.row]
    done
theorem split_inl : InlOk Try.prog 31 (frame0 (own0 (argG (cAgg rNd) fun n => finG (if shape n = true then some ((.agg [.v (.bool false), .osl 2 7 0 8 8], [none, none, some (7, (sp8 n).map Entry.row)])) else none)))) := frame0_ok split_own
def clA : Row → Heap → Option (AVal × Heap)
  | [.agg [.v (.bool false), .osl 0 7 0 n kc]], [some (7, rows)] => match rows.mapM entDec with
    | some l => if n = rows.length ∧ kc = n ∧ n ≤ 8 ∧ 0 < n then (if l.all Entry.none = true then some (.v (.agg #[.bool false, .slice none 0 0]), [some (7, rows)]) else some (.agg [.v (.bool false), .osl 0 7 0 n kc], [some (7, rows)])) else none
    | none => none
  | _, _ => none
theorem clean_own : InlOk Try.prog 32 clA := by
  refine inl_canonE Try.func32 rfl ?_
  intro args H r H' hr
  unfold clA at hr
  split at hr
  · rename_i n kc rows
    split at hr
    · rename_i L hl
      have hrows := Entry.exact.rows hl
      subst hrows
      split at hr
      · rename_i hcond
        rw [List.length_map] at hcond
        obtain ⟨rfl, rfl, hn8, hn0⟩ := hcond
        have hEn : rEnt.enc = Entry.row := rfl
        rw [hEn] at hr ⊢
        refine ⟨_, ⟨rfl, fun hok j x v h k => k x h⟩, ?_⟩
        refine bodyE_of (noOrc_ok.withP none_pure) fxMix (by kernel_rfl) (by simp [Try.ntmps32]) ?_
        intro C cP cI cN cD cF cA
        have cp0 := orcP none_pure (C := C) (by rw [cP]; rfl)
        replace cI : C.inl = fun _ => false := cI
        replace cD : C.dyn = fun _ => [] := cD
        clear cP cN cF cA
        have hl1 : L.length ≤ 4294967296 := by omega
        simp [Try.ntmps32, Try.results32, cSl, cp0, cI, cD]
        refine loop_for L.length (fun j (_ : Unit) => ([(1, .ptr 1 2 0 0), (2, .ptr 2 2 0 0), (6, .osl 0 7 0 L.length L.length), (7, .v (.int .i64 L.length)), (8, .v (.int .i64 j))], [some (7, L.map Entry.row), some (2, [[.v (.bool false), .osl 0 7 0 L.length L.length]]), some (2, [[.v (.bool false), .v (.slice none 0 0)]])])) (fun j _ => ∀ i (h : i < L.length), i < j → L[i].none = true) () hl1 (by intros; omega) (by simp) ?_ ?_
        · rintro j _ hj hall hw
          by_cases hn : L[j].none = true
          · simp [Try.ntmps32, Try.results32, cSl, cp0, cI, cD, hj, hw, hn, rEnt, Entry.row, entDec]
            intro i hi hlt
            rcases Nat.lt_or_eq_of_le (Nat.le_of_lt_succ hlt) with h | h
            · exact hall i hi h
            · subst h; exact hn
          · have hno : ¬ L.all Entry.none = true := fun h => hn (List.all_eq_true.1 h _ (List.getElem_mem hj))
            rw [if_neg hno] at hr
            simp only [Option.some.injEq, Prod.mk.injEq] at hr
            obtain ⟨rfl, rfl⟩ := hr
            have hn' : L[j].none = false := by simpa using hn
            simp [Try.ntmps32, Try.results32, cSl, cp0, cI, cD, hj, hn', rEnt, Entry.row, entDec]
            exact .weak (by simp)
        · rintro _ hall
          have hyes : L.all Entry.none = true := List.all_eq_true.2 fun e he => by
            obtain ⟨i, hi, rfl⟩ := List.getElem_of_mem he
            exact hall i hi hi
          rw [if_pos hyes] at hr
          simp only [Option.some.injEq, Prod.mk.injEq] at hr
          obtain ⟨rfl, rfl⟩ := hr
          simp [Try.ntmps32, Try.results32, cSl, cp0, cI, cD]
          exact .weak (by simp)
      · cases hr
    · cases hr
  · cases hr
theorem clean_inl : InlOk Try.prog 32 (frameA clA) := frameA_ok clean_own
theorem fl_map (f : AVal → AVal) (rs : List Row) : (fl rs).map f = fl (rs.map (List.map f)) := by
  induction rs with
  | nil => rfl
  | cons r rs ih => simp [fl, ih]
/-- known a little less, cell by cell -/
theorem shows_fl {H : Heap} {d : Nat} {rs xs : List Row} (h1 : ∀ r ∈ rs, r.length = 2) (h2 : ∀ r ∈ xs, r.length = 2) (hl : rs.length = xs.length)
    (h : ∀ (i : Nat) (r x : Row), rs[i]? = some r → xs[i]? = some x → ∀ (j : Nat) (a b : AVal), r[j]? = some a → x[j]? = some b → ShowsA H d a b) : ShowsA H (d + 1) (.agg (fl rs)) (.agg (fl xs)) := by
  have key : ∀ (i : Nat) (a b : AVal), (fl rs)[i]? = some a → (fl xs)[i]? = some b → ShowsA H d a b := by
    intro i a b ha hb
    have hi : i < rs.length * 2 := by have := (List.getElem?_eq_some_iff.1 ha).1; rwa [fl_len h1] at this
    obtain ⟨q, j, rfl, hj⟩ : ∃ q j, i = q * 2 + j ∧ j < 2 := ⟨i / 2, i % 2, by omega, by omega⟩
    have hq : q < rs.length := by omega
    rw [fl_get h1 hq hj] at ha
    rw [fl_get h2 (by omega) hj] at hb
    exact h q _ _ (List.getElem?_eq_getElem hq) (List.getElem?_eq_getElem (by omega)) j a b ha hb
  refine ⟨?_, ?_⟩
  · simp only [view]
    refine .agg (by rw [List.length_map, fl_len h1, fl_len h2, hl]) fun j a b ha hb => ?_
    rw [List.getElem?_map, Option.map_eq_some_iff] at hb
    obtain ⟨c, hc, rfl⟩ := hb
    exact (key j a c ha hc).1
  · simp only [view, hot, hotC_all]
    rw [List.all_eq_true]
    intro y hy
    obtain ⟨b, hb, rfl⟩ := List.mem_map.1 hy
    obtain ⟨i, hi⟩ := List.getElem?_of_mem hb
    have hil : i < (fl rs).length := by have := (List.getElem?_eq_some_iff.1 hi).1; rw [fl_len h1, hl, ← fl_len h2]; exact this
    exact (key i _ b (List.getElem?_eq_getElem hil) hi).2
theorem showsHot {H : Heap} {d : Nat} {a : AVal} (h1 : hot a = true) (h2 : view H d a = a) : ShowsA H d a a := by
  refine ⟨?_, ?_⟩
  · rw [h2]; exact .refl a
  · rw [h2]; exact h1
/-- one node changed -/
theorem shows_tb {H : Heap} {d : Nat} {l : List Nd} {k : Nat} {n : Nd} {c1 c2 : AVal} (hk : k < l.length) (h1 : ShowsA H d (.v (.bool n.huge)) c1) (h2 : ShowsA H d (.fsl true 7 (n.ents.map Entry.row)) c2) :
    ShowsA H (d + 1) (.agg (fl ((l.set k n).map Nd.hrow))) (.agg (fl ((l.map Nd.hrow).set k [c1, c2]))) := by
  refine shows_fl (nd_hrows _) (fun r hr => ?_) (by simp) ?_
  · rcases List.mem_or_eq_of_mem_set hr with hr | rfl
    · exact nd_hrows l r hr
    · rfl
  · intro i r x hr hx j a b ha hb
    by_cases e : i = k
    · subst e
      rw [List.map_set, List.getElem?_set_self (by simpa using hk)] at hr
      rw [List.getElem?_set_self (by simpa using hk)] at hx
      cases hr; cases hx
      match j, ha, hb with
      | 0, ha, hb => simp [Nd.hrow] at ha hb; subst ha; subst hb; exact h1
      | 1, ha, hb => simp [Nd.hrow] at ha hb; subst ha; subst hb; exact h2
      | j + 2, ha, hb => simp at hb
    · rw [List.map_set, List.getElem?_set_ne (fun q => e q.symm)] at hr
      rw [List.getElem?_set_ne (fun q => e q.symm), hr] at hx
      cases hx
      rw [ha] at hb
      cases hb
      simp only [List.getElem?_map, Option.map_eq_some_iff] at hr
      obtain ⟨m, _, rfl⟩ := hr
      match j, ha with
      | 0, ha => simp [Nd.hrow] at ha; subst ha; exact showsV _
      | 1, ha =>
        simp [Nd.hrow] at ha; subst ha
        refine showsHot (by simp [hot, Entry.hotR]) ?_
        have := Nd.hview H d m
        simp only [Nd.hrow, List.map_cons, List.cons.injEq] at this
        exact this.2.1
      | j + 2, ha => simp [Nd.hrow] at ha
end Go.Proofs.Ytdhpgdfjogklaaa
