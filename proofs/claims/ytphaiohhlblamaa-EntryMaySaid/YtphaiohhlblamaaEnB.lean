/- The law EntryMay returns true. -/
import Derived.Test.YtphaiohhlblamaaEnA
namespace Go.Proofs.Ytphaiohhlblamaa
open Go.AI
set_option maxHeartbeats 2000000
set_option maxRecDepth 100000
set_option linter.unusedSimpArgs false
set_option linter.unusedVariables false
attribute [local simp] wpA wpX RunA RunD runF foot footP footB idsA bare apart runL step1 gsel_f gsel_t gsel_s res_same res_and1 res_and2 res_and3 res_and4 res_and5 res_and6 res_false res_true res_v res_ptr res_fptr res_osl res_xsl soft aAppendZ aCap ovlI ovlJ res_fsl res_esl res_agg res_tup res_fn res_junk res_anyb aPick hk imp_left iteV dstOk guardOk astep astepE AI.ev AI.look AI.put envOf aBox cellsOf allOne allOneA oneA Value.oneCell' Value.cells newObj' aFieldAddr aLoad obj readAt thenA blockA condA retA resA tupA view hot hotC hotR depthV cAgg cInt cBool mkAgg allV aAlloc aBuild fillA writeAt aStore isAggA aField idx aIndexAddr aIndex bnd aSlice aExtract aLen aBuiltin aCall isStatic eqAgg eqTy eqC ev_add ev_sub ev_mul ev_quo ev_rem ev_and ev_or ev_xor ev_andNot ev_shl ev_shr ev_eql ev_neq ev_lss ev_leq ev_gtr ev_geq ev_agg w64 wu32 wu8 ev_not ev_neg Cod.plain RCod.plain argM finM cold coldC coldR goInt intDec boolDec aggDec Weaker heapW lowA lowC Again slDec undef aBuildSlice setRows aAppend rowsOf aMakeSlice aClear aCopy softer_self softer_nil valsOf ev_min2 ev_max2 hotR_set hotR_append take_map_set irow_cold irow_mapM irow_mapMc irow_view irow_viewc irow_hotR irow_ren irow_renc irow_low WeakT heapT thOf ren renC AgainT NextF NextT fnDec cFn rNil selfLt natLt0 natLt1 getLastMap frame0 frame1 own0 own1 argG finG tau tauI tauO tauC bareA bareC bareH irow_tau irow_tauc irow_bare irow_flat irow_bareR ownA_nil ownT_nil ownA_c ownT_c ownA_s ownT_s takeMapLen footC plainA noId noIdC cloneF frame0F frame1F insertF replaceI replaceF cellDec rCell fpDec cFp rTwo deleteF RunR RunE runFT footAt hotR_cat tmodN fxSz2 fxBy2 fxAg2 fxZe2 fxSl2 fxAr2 fxPl2 fxSz3 fxBy3 fxAg3 fxZe3 fxSl3 fxAr3 fxPl3 fxSz4 fxBy4 fxAg4 fxZe4 fxSl4 fxAr4 fxPl4 fxSz5 fxBy5 fxAg5 fxZe5 fxSl5 fxAr5 fxPl5 fxSz9 fxBy9 fxAg9 fxZe9 fxSl9 fxAr9 fxPl9 fxSz12 fxBy12 fxAg12 fxZe12 fxSl12 fxAr12 fxPl12 fxSz13 fxBy13 fxAg13 fxZe13 fxSl13 fxAr13 fxFi13x0 fxFi13x1 fxPl13 fxSz21 fxBy21 fxAg21 fxZe21 fxSl21 fxAr21 fxPl21 fxSz22 fxBy22 fxAg22 fxZe22 fxSl22 fxAr22 fxFi22x0 fxFi22x1 fxFi22x2 fxFi22x3 fxFi22x4 fxFi22x5 fxFi22x6 fxPl22 fxSz23 fxBy23 fxAg23 fxZe23 fxSl23 fxAr23 fxFi23x0 fxFi23x1 fxFi23x2 fxFi23x3 fxFi23x4 fxFi23x5 fxFi23x6 fxPl23 fxSz24 fxBy24 fxAg24 fxZe24 fxSl24 fxAr24 fxPl24 fxSz25 fxBy25 fxAg25 fxZe25 fxSl25 fxAr25 fxPl25 fxSz35 fxBy35 fxAg35 fxZe35 fxSl35 fxAr35 fxPl35 fxSz38 fxBy38 fxAg38 fxZe38 fxSl38 fxAr38 fxFi38x0 fxFi38x1 fxFi38x2 fxPl38 fxSz39 fxBy39 fxAg39 fxZe39 fxSl39 fxAr39 fxFi39x0 fxFi39x1 fxFi39x2 fxPl39 fxSz45 fxBy45 fxAg45 fxZe45 fxSl45 fxAr45 fxPl45 fxSz54 fxBy54 fxAg54 fxZe54 fxSl54 fxAr54 fxPl54 fxSz55 fxBy55 fxAg55 fxZe55 fxSl55 fxAr55 fxFi55x0 fxFi55x1 fxPl55 fxSz56 fxBy56 fxAg56 fxZe56 fxSl56 fxAr56 fxPl56 fxSz65 fxBy65 fxAg65 fxZe65 fxSl65 fxAr65 fxPl65 fxSz66 fxBy66 fxAg66 fxZe66 fxSl66 fxAr66 fxFi66x0 fxPl66 fxSz72 fxBy72 fxAg72 fxZe72 fxSl72 fxAr72 fxPl72 fxSz77 fxBy77 fxAg77 fxZe77 fxSl77 fxAr77 fxPl77 fxEq23 fxEq39 fxEq55 fxEq56 fxCv2x2 fxCv2x3 fxCv2x5 fxCv2x12 fxCv2x21 fxCv2x24 fxCv2x25 fxCv2x54 fxCv3x2 fxCv3x3 fxCv3x5 fxCv3x12 fxCv3x21 fxCv3x24 fxCv3x25 fxCv3x54 fxCv5x2 fxCv5x3 fxCv5x5 fxCv5x12 fxCv5x21 fxCv5x24 fxCv5x25 fxCv5x54 fxCv12x2 fxCv12x3 fxCv12x5 fxCv12x12 fxCv12x21 fxCv12x24 fxCv12x25 fxCv12x54 fxCv21x2 fxCv21x3 fxCv21x5 fxCv21x12 fxCv21x21 fxCv21x24 fxCv21x25 fxCv21x54 fxCv24x2 fxCv24x3 fxCv24x5 fxCv24x12 fxCv24x21 fxCv24x24 fxCv24x25 fxCv24x54 fxCv25x2 fxCv25x3 fxCv25x5 fxCv25x12 fxCv25x21 fxCv25x24 fxCv25x25 fxCv25x54 fxCv54x2 fxCv54x3 fxCv54x5 fxCv54x12 fxCv54x21 fxCv54x24 fxCv54x25 fxCv54x54 fxEb4 fxNb4 fxLt9 fxLn35 fxNe35 fxNn35 fxOe35 fxOn35 fxXe35 fxXn35 fxLn45 fxNe45 fxNn45 fxOe45 fxOn45 fxXe45 fxXn45 fxFn3 fxFm3 fxFb3 fxFi3 fxFj3 fxFn4 fxFm4 fxFb4 fxFi4 fxFj4 fxFn5 fxFm5 fxFb5 fxFi5 fxFj5 fxFn6 fxFm6 fxFb6 fxFi6 fxFj6 fxFn7 fxFm7 fxFb7 fxFi7 fxFj7 fxFn8 fxFm8 fxFb8 fxFi8 fxFj8 fxFn9 fxFm9 fxFb9 fxFi9 fxFj9 fxFn10 fxFm10 fxFb10 fxFi10 fxFj10 fxFn11 fxFm11 fxFb11 fxFi11 fxFj11 fxFn12 fxFm12 fxFb12 fxFi12 fxFj12 fxFn13 fxFm13 fxFb13 fxFi13 fxFj13 fxFn14 fxFm14 fxFb14 fxFi14 fxFj14 fxFn15 fxFm15 fxFb15 fxFi15 fxFj15 fxFn16 fxFm16 fxFb16 fxFi16 fxFj16 fxFn17 fxFm17 fxFb17 fxFi17 fxFj17 fxFn18 fxFm18 fxFb18 fxFi18 fxFj18 fxFn19 fxFm19 fxFb19 fxFi19 fxFj19 fxFn20 fxFm20 fxFb20 fxFi20 fxFj20 fxFn21 fxFm21 fxFb21 fxFi21 fxFj21 fxFn22 fxFm22 fxFb22 fxFi22 fxFj22 fxFn23 fxFm23 fxFb23 fxFi23 fxFj23 fxFn24 fxFm24 fxFb24 fxFi24 fxFj24 fxFn25 fxFm25 fxFb25 fxFi25 fxFj25 fxFn26 fxFm26 fxFb26 fxFi26 fxFj26 fxFn27 fxFm27 fxFb27 fxFi27 fxFj27
attribute [local simp] Entry.eta Entry.cold Entry.mapM Entry.mapMc Entry.view Entry.viewc Entry.hotR Entry.ren Entry.renc Entry.low Entry.tau Entry.tauc Entry.bare Entry.flat Entry.flat1 Entry.mapMt Entry.mapMd Entry.coldt Entry.coldd Entry.hotRt Entry.hotRd
def Entry.touchC (e : Entry) (want : Int) : Int := if e.chk = 0 then (if e.may want = true then 0 else 11) else e.chk
def Entry.touchE (e : Entry) (want : Int) : Entry := if e.touchC want = 0 then { e with used := true, dirty := e.dirty || !decide (iand .i64 want 2 = 0) } else noEnt

theorem touch_pure : PureOk Try.prog 12 (argM (cAgg rEnt) fun e => argM (cInt .i64) fun want => finM (some (.v (.tuple #[(e.touchE want).val, .int .i64 (e.touchC want)])))) := by
  refine pure2 Try.func12 rfl ?_
  rintro e want r hr
  simp only [Option.some.injEq] at hr
  subst hr
  refine body_gen ((noOrc_ok.withP check_pure).withP may_pure) fxMix (by kernel_rfl) (by simp [Try.ntmps12]) ?_
  intro C cP cI cN cD cF cA
  have cp0 := orcP check_pure (C := C) (by rw [cP]; rfl)
  have cp1 := orcP may_pure (C := C) (by rw [cP]; rfl)
  replace cI : C.inl = fun _ => false := cI
  replace cD : C.dyn = fun _ => [] := cD
  clear cP cN cF cA
  obtain ⟨a1, a2, a3, a4, a5, a6, a7⟩ := e
  by_cases h0 : (Entry.mk a1 a2 a3 a4 a5 a6 a7).chk = 0
  · by_cases h1 : (Entry.mk a1 a2 a3 a4 a5 a6 a7).may want = true
    · cases a6
      · by_cases h3 : iand .i64 want 2 = 0
        · simp [Try.ntmps12, Try.results12, cSl, cp0, cp1, cI, cD, rEnt, Entry.row, entDec, Entry.val, Entry.touchE, Entry.touchC, h0, h1, h3]
        · simp [Try.ntmps12, Try.results12, cSl, cp0, cp1, cI, cD, rEnt, Entry.row, entDec, Entry.val, Entry.touchE, Entry.touchC, h0, h1, h3]
      · simp [Try.ntmps12, Try.results12, cSl, cp0, cp1, cI, cD, rEnt, Entry.row, entDec, Entry.val, Entry.touchE, Entry.touchC, h0, h1]
    · simp [Try.ntmps12, Try.results12, cSl, cp0, cp1, cI, cD, rEnt, Entry.row, entDec, Entry.val, Entry.touchE, Entry.touchC, h0, h1, noEnt]
  · simp [Try.ntmps12, Try.results12, cSl, cp0, cp1, cI, cD, rEnt, Entry.row, entDec, Entry.val, Entry.touchE, Entry.touchC, h0, noEnt]
theorem touchE_of {e : Entry} {want : Int} (h : e.touchC want = 0) : e.touchE want = { e with used := true, dirty := e.dirty || !decide (iand .i64 want 2 = 0) } := by
  unfold Entry.touchE
  rw [if_pos h]

def ent1 : Entry := ⟨true, false, 1, 0, false, false, false⟩
theorem word1_pure : PureOk Try.prog 8 (argM (cAgg rEnt) fun e => finM (if e = ent1 then some (.v (.tuple #[.int .u32 257, .int .i64 0])) else none)) := by
  refine pure1 Try.func8 rfl ?_
  rintro e r hr
  by_cases hc : e = ent1
  case neg => rw [if_neg hc] at hr; cases hr
  rw [if_pos hc] at hr
  simp only [Option.some.injEq] at hr
  subst hr
  refine body_gen (noOrc_ok.withP check_pure) fxMix (by kernel_rfl) (by simp [Try.ntmps8]) ?_
  intro C cP cI cN cD cF cA
  have cp0 := orcP check_pure (C := C) (by rw [cP]; rfl)
  replace cI : C.inl = fun _ => false := cI
  replace cD : C.dyn = fun _ => [] := cD
  clear cP cN cF cA
  subst hc
  have h0 : ent1.chk = 0 := by decide
  simp only [ent1] at h0
  simp [Try.ntmps8, Try.results8, cSl, cp0, cI, cD, rEnt, Entry.row, entDec, ent1, h0]
  refine loop_rounds 6 ?_
  simp [Try.ntmps8, Try.results8, cSl, cp0, cI, cD, UnrK]
  try decide +kernel

theorem entries_pure : PureOk Try.prog 10 ( finM (some (.v (.bool true)))) := by
  refine pure0 Try.func10 rfl ?_
  rintro  r hr
  simp only [Option.some.injEq] at hr
  subst hr
  refine body_gen (noOrc_ok.withP word1_pure) fxMix (by kernel_rfl) (by simp [Try.ntmps10]) ?_
  intro C cP cI cN cD cF cA
  have cp0 := orcP word1_pure (C := C) (by rw [cP]; rfl)
  replace cI : C.inl = fun _ => false := cI
  replace cD : C.dyn = fun _ => [] := cD
  clear cP cN cF cA
  simp [Try.ntmps10, Try.results10, cSl, cp0, cI, cD, rEnt, Entry.row, entDec, ent1]

theorem iand_small (a w : Int) (h0 : 0 ≤ w) (h1 : w ≤ 7) : 0 ≤ iand .i64 a w ∧ iand .i64 a w ≤ 7 := by
  have hw : (BitVec.ofInt 64 w).toNat = w.toNat := by rw [BitVec.toNat_ofInt]; omega
  have h2 : (BitVec.ofInt 64 a &&& BitVec.ofInt 64 w).toNat ≤ 7 := by
    rw [BitVec.toNat_and]
    refine Nat.le_trans Nat.and_le_right ?_
    omega
  have h : iand .i64 a w = ((BitVec.ofInt 64 a &&& BitVec.ofInt 64 w).toNat : Int) := by
    show IntKind.i64.wrap ((BitVec.ofInt 64 a &&& BitVec.ofInt 64 w).toNat : Int) = _
    exact w64 (by omega) (by omega)
  rw [h]
  omega
theorem less_tab : ∀ r w l : Fin 8, iand .i64 (r.val : Int) w.val = w.val → iand .i64 (l.val : Int) w.val = l.val → iand .i64 (r.val : Int) l.val = l.val ∧ (iand .i64 (w.val : Int) 2 = 0 → iand .i64 (l.val : Int) 2 = 0) := by
  decide +kernel
theorem less_bits (r : Nat) (hr : r < 8) (w : Nat) (hw : w < 8) (l : Nat) (hl : l < 8) : iand .i64 (r : Int) w = w → iand .i64 (l : Int) w = l → iand .i64 (r : Int) l = l ∧ (iand .i64 (w : Int) 2 = 0 → iand .i64 (l : Int) 2 = 0) :=
  less_tab ⟨r, hr⟩ ⟨w, hw⟩ ⟨l, hl⟩
theorem may_less {e : Entry} {want less : Int} (h : e.may want = true) (h1 : 1 ≤ less) (h2 : iand .i64 less want = less) (hc : e.chk = 0) : e.may less = true := by
  simp only [Entry.may, Bool.and_eq_true, decide_eq_true_eq, Bool.or_eq_true] at h ⊢
  obtain ⟨⟨⟨⟨⟨a1, a2⟩, a3⟩, a4⟩, a5⟩, a6⟩ := h
  have b := iand_small less want (by omega) a2
  rw [h2] at b
  have hr : 0 ≤ e.rights ∧ e.rights ≤ 7 := by
    unfold Entry.chk at hc
    split at hc
    · simp at hc
    · omega
  have := less_bits e.rights.toNat (by omega) want.toNat (by omega) less.toNat (by omega)
  rw [Int.toNat_of_nonneg hr.1, Int.toNat_of_nonneg (by omega), Int.toNat_of_nonneg (by omega)] at this
  obtain ⟨c1, c2⟩ := this a5 h2
  exact ⟨⟨⟨⟨⟨h1, b.2⟩, a3⟩, a4⟩, c1⟩, a6.imp_left c2⟩
theorem may_chk {e : Entry} {want : Int} (h : e.may want = true) : e.chk = 0 ∧ e.here = true := by
  simp only [Entry.may, Bool.and_eq_true, decide_eq_true_eq, Bool.or_eq_true] at h
  exact ⟨h.1.1.1.2, h.1.1.2⟩
theorem touch_may {e : Entry} {want : Int} (h : e.may want = true) : ({ e with used := true, dirty := e.dirty || !decide (iand .i64 want 2 = 0) } : Entry).may want = true := by
  obtain ⟨h1, h2⟩ := may_chk h
  have : ({ e with used := true, dirty := e.dirty || !decide (iand .i64 want 2 = 0) } : Entry).chk = 0 := by
    unfold Entry.chk at h1 ⊢
    split at h1
    · simp at h1
    · rename_i q
      rw [if_neg q]
      obtain ⟨he, s, a, r, u, d, c⟩ := e
      simp only at h2
      subst h2
      cases s <;> simp_all [Entry.none]
  simp only [Entry.may, this, Bool.and_eq_true, decide_eq_true_eq, Bool.or_eq_true] at h ⊢
  exact ⟨⟨⟨⟨h.1.1.1.1, trivial⟩, h.1.1.2⟩, h.1.2⟩, h.2⟩

theorem mayLaw_pure : PureOk Try.prog 4 (argM (cAgg rEnt) fun x => argM (cInt .i64) fun want => argM (cInt .i64) fun less => finM (some (.v (.bool true)))) := by
  refine pure3 Try.func4 rfl ?_
  rintro x want less r hr
  simp only [Option.some.injEq] at hr
  subst hr
  refine body_gen ((((noOrc_ok.withP may_pure).withP touch_pure).withP entries_pure).withD (fun i => if i = 9 then [(3,5)] else [])) fxMix (by kernel_rfl) (by simp [Try.ntmps4]) ?_
  intro C cP cI cN cD cF cA
  have cp0 := orcP may_pure (C := C) (by rw [cP]; rfl)
  have cp1 := orcP touch_pure (C := C) (by rw [cP]; rfl)
  have cp2 := orcP entries_pure (C := C) (by rw [cP]; rfl)
  replace cI : C.inl = fun _ => false := cI
  replace cD : C.dyn = fun i => if i = 9 then [(3,5)] else [] := cD
  replace cF := fun g => congrFun cF g
  simp only [Orc.withP, Orc.withI, Orc.withF, Orc.withD, Orc.withA, noOrc] at cF
  replace cA : C.alt = fun _ => [] := cA
  clear cP cN
  by_cases h0 : x.may want = true
  · obtain ⟨h1, h2⟩ := may_chk h0
    have t1 : x.touchC want = 0 := by simp [Entry.touchC, h1, h0]
    have t2 : x.touchE want = { x with used := true, dirty := x.dirty || !decide (iand .i64 want 2 = 0) } := by simp [Entry.touchE, t1]
    have h3 := touch_may h0
    have h4 := (may_chk h3).1
    have t3 : (x.touchE want).touchC want = 0 := by rw [t2]; simp [Entry.touchC, h3, h4]
    have t4 : (x.touchE want).touchE want = x.touchE want := by
      rw [touchE_of t3, t2]
      simp
    generalize hy : x.touchE want = y at *
    by_cases h5 : 1 ≤ less ∧ iand .i64 less want = less
    · have h6 := may_less h0 h5.1 h5.2 h1
      simp [Try.ntmps4, Try.results4, cSl, cp0, cp1, cp2, cI, cD, cF, cA, rEnt, Entry.row, entDec, Entry.val, h0, h5, h6, t1, t3, t4, hy]
      rw [t2]
      simp
    · simp [Try.ntmps4, Try.results4, cSl, cp0, cp1, cp2, cI, cD, cF, cA, rEnt, Entry.row, entDec, Entry.val, h0, h5, t1, t3, t4, hy]
      rw [t2]
      simp
  · simp [Try.ntmps4, Try.results4, cSl, cp0, cp1, cp2, cI, cD, cF, cA, rEnt, Entry.row, entDec, h0]
end Go.Proofs.Ytphaiohhlblamaa
