/- EntryBack: true at every input. -/
import Derived.Test.YtphaiohhlblamaaEntB
import Derived.Test.YtphaiohhlblamaaEntC
namespace Go.Proofs.Ytphaiohhlblamaa
open Go.AI
set_option linter.unusedSimpArgs false
attribute [local simp] wpA wpX RunA runL step1 gsel_f gsel_t gsel_s res_same res_and1 res_and2 res_and3 res_and4 res_and5 res_and6 res_false res_true res_v res_ptr res_fptr res_osl res_fsl res_esl res_agg res_tup res_fn res_junk res_anyb aPick hk imp_left iteV dstOk guardOk astep astepE AI.ev AI.look AI.put envOf aBox cellsOf allOne allOneA oneA Value.oneCell' Value.cells newObj' aFieldAddr aLoad obj readAt thenA blockA condA retA resA tupA view hot hotC hotR depthV cAgg cInt cBool mkAgg allV aAlloc aBuild fillA writeAt aStore isAggA aField idx aIndexAddr aIndex bnd aSlice aExtract aLen aBuiltin aCall isStatic eqAgg eqTy eqC ev_add ev_sub ev_mul ev_quo ev_rem ev_and ev_or ev_xor ev_andNot ev_shl ev_shr ev_eql ev_neq ev_lss ev_leq ev_gtr ev_geq ev_agg w64 wu32 wu8 ev_not ev_neg Cod.plain RCod.plain Orc.withP Orc.withI noOrc argM finM cold coldC coldR goInt intDec boolDec aggDec Weaker heapW lowA lowC Again slDec undef fxSz2 fxBy2 fxAg2 fxZe2 fxSl2 fxAr2 fxPl2 fxSz3 fxBy3 fxAg3 fxZe3 fxSl3 fxAr3 fxPl3 fxSz4 fxBy4 fxAg4 fxZe4 fxSl4 fxAr4 fxPl4 fxSz5 fxBy5 fxAg5 fxZe5 fxSl5 fxAr5 fxPl5 fxSz9 fxBy9 fxAg9 fxZe9 fxSl9 fxAr9 fxPl9 fxSz12 fxBy12 fxAg12 fxZe12 fxSl12 fxAr12 fxPl12 fxSz13 fxBy13 fxAg13 fxZe13 fxSl13 fxAr13 fxFi13x0 fxFi13x1 fxPl13 fxSz21 fxBy21 fxAg21 fxZe21 fxSl21 fxAr21 fxPl21 fxSz22 fxBy22 fxAg22 fxZe22 fxSl22 fxAr22 fxFi22x0 fxFi22x1 fxFi22x2 fxFi22x3 fxFi22x4 fxFi22x5 fxFi22x6 fxPl22 fxSz23 fxBy23 fxAg23 fxZe23 fxSl23 fxAr23 fxFi23x0 fxFi23x1 fxFi23x2 fxFi23x3 fxFi23x4 fxFi23x5 fxFi23x6 fxPl23 fxSz24 fxBy24 fxAg24 fxZe24 fxSl24 fxAr24 fxPl24 fxSz25 fxBy25 fxAg25 fxZe25 fxSl25 fxAr25 fxPl25 fxSz35 fxBy35 fxAg35 fxZe35 fxSl35 fxAr35 fxPl35 fxSz38 fxBy38 fxAg38 fxZe38 fxSl38 fxAr38 fxFi38x0 fxFi38x1 fxFi38x2 fxPl38 fxSz39 fxBy39 fxAg39 fxZe39 fxSl39 fxAr39 fxFi39x0 fxFi39x1 fxFi39x2 fxPl39 fxSz45 fxBy45 fxAg45 fxZe45 fxSl45 fxAr45 fxPl45 fxSz54 fxBy54 fxAg54 fxZe54 fxSl54 fxAr54 fxPl54 fxSz55 fxBy55 fxAg55 fxZe55 fxSl55 fxAr55 fxFi55x0 fxFi55x1 fxPl55 fxSz56 fxBy56 fxAg56 fxZe56 fxSl56 fxAr56 fxPl56 fxSz65 fxBy65 fxAg65 fxZe65 fxSl65 fxAr65 fxPl65 fxSz66 fxBy66 fxAg66 fxZe66 fxSl66 fxAr66 fxFi66x0 fxPl66 fxSz72 fxBy72 fxAg72 fxZe72 fxSl72 fxAr72 fxPl72 fxSz77 fxBy77 fxAg77 fxZe77 fxSl77 fxAr77 fxPl77 fxEq23 fxEq39 fxEq55 fxEq56 fxCv2x2 fxCv2x3 fxCv2x5 fxCv2x12 fxCv2x21 fxCv2x24 fxCv2x25 fxCv2x54 fxCv3x2 fxCv3x3 fxCv3x5 fxCv3x12 fxCv3x21 fxCv3x24 fxCv3x25 fxCv3x54 fxCv5x2 fxCv5x3 fxCv5x5 fxCv5x12 fxCv5x21 fxCv5x24 fxCv5x25 fxCv5x54 fxCv12x2 fxCv12x3 fxCv12x5 fxCv12x12 fxCv12x21 fxCv12x24 fxCv12x25 fxCv12x54 fxCv21x2 fxCv21x3 fxCv21x5 fxCv21x12 fxCv21x21 fxCv21x24 fxCv21x25 fxCv21x54 fxCv24x2 fxCv24x3 fxCv24x5 fxCv24x12 fxCv24x21 fxCv24x24 fxCv24x25 fxCv24x54 fxCv25x2 fxCv25x3 fxCv25x5 fxCv25x12 fxCv25x21 fxCv25x24 fxCv25x25 fxCv25x54 fxCv54x2 fxCv54x3 fxCv54x5 fxCv54x12 fxCv54x21 fxCv54x24 fxCv54x25 fxCv54x54 fxEb4 fxNb4 fxNe35 fxNn35 fxNe45 fxNn45 fxFn3 fxFb3 fxFn4 fxFb4 fxFn5 fxFb5 fxFn6 fxFb6 fxFn7 fxFb7 fxFn8 fxFb8 fxFn9 fxFb9 fxFn10 fxFb10 fxFn11 fxFb11 fxFn12 fxFb12 fxFn13 fxFb13 fxFn14 fxFb14 fxFn15 fxFb15 fxFn16 fxFb16 fxFn17 fxFb17 fxFn18 fxFb18 fxFn19 fxFb19 fxFn20 fxFb20 fxFn21 fxFb21 fxFn22 fxFb22 fxFn23 fxFb23 fxFn24 fxFb24 fxFn25 fxFb25 fxFn26 fxFb26 fxFn27 fxFb27

theorem Entry.eta (x : Entry) : Entry.mk x.here x.slot x.at_ x.rights x.used x.dirty x.copy = x := rfl

theorem back_pure : PureOk Try.prog 3 (argM (cAgg rEnt) fun _ => argM (cInt .u32) fun w => finM (if 0 ≤ w ∧ w ≤ 4294967295 then some (.v (.bool true)) else none)) := by
  refine pure2 Try.func3 rfl ?_
  rintro x w r hr
  split at hr
  · rename_i hw
    simp only [Option.some.injEq] at hr
    subst hr
    refine body_of (((noOrc_ok.withP word_pure).withP read_pure).withP entries_pure) fxMix (by kernel_rfl) (by simp [Try.ntmps3]) ?_
    simp [Try.ntmps3, Try.results3, rEnt, Entry.row, entDec, Entry.val]
    simp only [Entry.eta]
    have hr : if readC w = 0 then (readE w).chk = 0 ∧ (readE w).word = w else (readE w).here = false ∧ (readE w).slot = false ∧ (readE w).at_ = 0 ∧ (readE w).rights = 0 ∧ (readE w).used = false ∧ (readE w).dirty = false ∧ (readE w).copy = false := by
      by_cases h : (ofWord w).chk = 0
      · have e1 : readE w = ofWord w := by simp only [readE, h, if_true]
        have e2 : readC w = 0 := by simp only [readC, h, if_true]
        rw [e1, e2, if_pos rfl]
        refine ⟨h, ?_⟩
        simp only [Entry.word, h, if_true]
        exact word_of hw.1 (word_small hw.1 hw.2 h)
      · have e1 : readE w = noEnt := by simp only [readE, h, if_false]
        have e2 : ¬ readC w = 0 := by simp only [readC, h, if_false]; decide
        rw [e1, if_neg e2]
        decide
    by_cases hx : x.chk = 0
    · rw [if_pos hx]
      have hw5 : x.word = x.wk 5 := by simp only [Entry.word, hx, if_true]
      have ho := of_word hx
      have hcc : (ofWord (x.wk 5)).chk = 0 := by rw [ho]; exact hx
      have e1 : readE x.word = x := by rw [hw5]; simp only [readE, hcc, if_true]; exact ho
      have e2 : readC x.word = 0 := by rw [hw5]; simp only [readC, hcc, if_true]
      rw [e1, e2]
      exact ⟨⟨rfl, rfl, rfl, rfl, rfl, rfl, rfl, rfl⟩, hr⟩
    · rw [if_neg hx]; exact hr
  · cases hr

end Go.Proofs.Ytphaiohhlblamaa
