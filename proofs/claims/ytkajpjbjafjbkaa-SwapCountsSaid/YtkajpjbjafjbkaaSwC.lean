/- The laws of chapter 31 return true. -/
import Derived.Test.YtkajpjbjafjbkaaSwB
namespace Go.Proofs.Ytkajpjbjafjbkaa
open Go.AI
set_option maxHeartbeats 2000000
set_option linter.unusedSimpArgs false
set_option linter.unusedVariables false
attribute [local simp] wpA wpX RunA RunD runF foot footP bare apart runL step1 gsel_f gsel_t gsel_s res_same res_and1 res_and2 res_and3 res_and4 res_and5 res_and6 res_false res_true res_v res_ptr res_fptr res_osl res_fsl res_esl res_agg res_tup res_fn res_junk res_anyb aPick hk imp_left iteV dstOk guardOk astep astepE AI.ev AI.look AI.put envOf aBox cellsOf allOne allOneA oneA Value.oneCell' Value.cells newObj' aFieldAddr aLoad obj readAt thenA blockA condA retA resA tupA view hot hotC hotR depthV cAgg cInt cBool mkAgg allV aAlloc aBuild fillA writeAt aStore isAggA aField idx aIndexAddr aIndex bnd aSlice aExtract aLen aBuiltin aCall isStatic eqAgg eqTy eqC ev_add ev_sub ev_mul ev_quo ev_rem ev_and ev_or ev_xor ev_andNot ev_shl ev_shr ev_eql ev_neq ev_lss ev_leq ev_gtr ev_geq ev_agg w64 wu32 wu8 ev_not ev_neg Cod.plain RCod.plain argM finM cold coldC coldR goInt intDec boolDec aggDec Weaker heapW lowA lowC Again slDec undef aBuildSlice setRows aAppend rowsOf aMakeSlice aClear aCopy softer_self softer_nil valsOf ev_min2 ev_max2 hotR_set hotR_append take_map_set irow_cold irow_mapM irow_mapMc irow_view irow_viewc irow_hotR irow_ren irow_renc irow_low WeakT heapT thOf ren renC AgainT NextF NextT fnDec cFn rNil selfLt natLt0 natLt1 getLastMap fxSz2 fxBy2 fxAg2 fxZe2 fxSl2 fxAr2 fxPl2 fxSz3 fxBy3 fxAg3 fxZe3 fxSl3 fxAr3 fxPl3 fxSz4 fxBy4 fxAg4 fxZe4 fxSl4 fxAr4 fxPl4 fxSz5 fxBy5 fxAg5 fxZe5 fxSl5 fxAr5 fxPl5 fxSz9 fxBy9 fxAg9 fxZe9 fxSl9 fxAr9 fxPl9 fxSz12 fxBy12 fxAg12 fxZe12 fxSl12 fxAr12 fxPl12 fxSz13 fxBy13 fxAg13 fxZe13 fxSl13 fxAr13 fxFi13x0 fxFi13x1 fxPl13 fxSz21 fxBy21 fxAg21 fxZe21 fxSl21 fxAr21 fxPl21 fxSz22 fxBy22 fxAg22 fxZe22 fxSl22 fxAr22 fxPl22 fxSz23 fxBy23 fxAg23 fxZe23 fxSl23 fxAr23 fxPl23 fxSz24 fxBy24 fxAg24 fxZe24 fxSl24 fxAr24 fxPl24 fxSz38 fxBy38 fxAg38 fxZe38 fxSl38 fxAr38 fxFi38x0 fxFi38x1 fxPl38 fxSz39 fxBy39 fxAg39 fxZe39 fxSl39 fxAr39 fxFi39x0 fxFi39x1 fxPl39 fxSz41 fxBy41 fxAg41 fxZe41 fxSl41 fxAr41 fxFi41x0 fxFi41x1 fxFi41x2 fxFi41x3 fxFi41x4 fxFi41x5 fxFi41x6 fxPl41 fxSz42 fxBy42 fxAg42 fxZe42 fxSl42 fxAr42 fxFi42x0 fxFi42x1 fxFi42x2 fxFi42x3 fxFi42x4 fxFi42x5 fxFi42x6 fxPl42 fxSz43 fxBy43 fxAg43 fxZe43 fxSl43 fxAr43 fxFi43x0 fxFi43x1 fxFi43x2 fxFi43x3 fxPl43 fxSz44 fxBy44 fxAg44 fxZe44 fxSl44 fxAr44 fxFi44x0 fxFi44x1 fxFi44x2 fxFi44x3 fxPl44 fxSz45 fxBy45 fxAg45 fxZe45 fxSl45 fxAr45 fxPl45 fxSz57 fxBy57 fxAg57 fxZe57 fxSl57 fxAr57 fxPl57 fxSz68 fxBy68 fxAg68 fxZe68 fxSl68 fxAr68 fxPl68 fxSz72 fxBy72 fxAg72 fxZe72 fxSl72 fxAr72 fxPl72 fxSz73 fxBy73 fxAg73 fxZe73 fxSl73 fxAr73 fxFi73x0 fxPl73 fxSz76 fxBy76 fxAg76 fxZe76 fxSl76 fxAr76 fxPl76 fxSz80 fxBy80 fxAg80 fxZe80 fxSl80 fxAr80 fxPl80 fxSz85 fxBy85 fxAg85 fxZe85 fxSl85 fxAr85 fxPl85 fxEq23 fxEq39 fxEq42 fxEq44 fxCv2x2 fxCv2x3 fxCv2x5 fxCv2x12 fxCv2x21 fxCv2x24 fxCv2x76 fxCv3x2 fxCv3x3 fxCv3x5 fxCv3x12 fxCv3x21 fxCv3x24 fxCv3x76 fxCv5x2 fxCv5x3 fxCv5x5 fxCv5x12 fxCv5x21 fxCv5x24 fxCv5x76 fxCv12x2 fxCv12x3 fxCv12x5 fxCv12x12 fxCv12x21 fxCv12x24 fxCv12x76 fxCv21x2 fxCv21x3 fxCv21x5 fxCv21x12 fxCv21x21 fxCv21x24 fxCv21x76 fxCv24x2 fxCv24x3 fxCv24x5 fxCv24x12 fxCv24x21 fxCv24x24 fxCv24x76 fxCv76x2 fxCv76x3 fxCv76x5 fxCv76x12 fxCv76x21 fxCv76x24 fxCv76x76 fxEb4 fxNb4 fxLt9 fxLn22 fxNe22 fxNn22 fxLn45 fxNe45 fxNn45 fxLn57 fxNe57 fxNn57 fxFn3 fxFb3 fxFn4 fxFb4 fxFn5 fxFb5 fxFn6 fxFb6 fxFn7 fxFb7 fxFn8 fxFb8 fxFn9 fxFb9 fxFn10 fxFb10 fxFn11 fxFb11 fxFn12 fxFb12 fxFn13 fxFb13 fxFn14 fxFb14 fxFn15 fxFb15 fxFn16 fxFb16 fxFn17 fxFb17 fxFn18 fxFb18 fxFn19 fxFb19 fxFn20 fxFb20 fxFn21 fxFb21 fxFn22 fxFb22 fxFn23 fxFb23 fxFn24 fxFb24 fxFn25 fxFb25 fxFn26 fxFb26 fxFn27 fxFb27 fxFn28 fxFb28 fxFn29 fxFb29 fxFn30 fxFb30 fxFn31 fxFb31 fxFn32 fxFb32 fxFn33 fxFb33 fxFn34 fxFb34
attribute [local simp] Pg.eta Pg.cold Pg.mapM Pg.mapMc Pg.view Pg.viewc Pg.hotR Pg.ren Pg.renc Pg.low
attribute [local simp] Slot.eta Slot.cold Slot.mapM Slot.mapMc Slot.view Slot.viewc Slot.hotR Slot.ren Slot.renc Slot.low
theorem swEqual_pure : PureOk Try.prog 16 (argM (cSl rSlot) fun l => argM (cSl rSlot) fun m => finM (if l.length ≤ 4294967296 then some (.v (.bool (decide (l = m)))) else none)) := by
  refine pure2 Try.func16 rfl ?_
  rintro l m r hr
  by_cases hc : l.length ≤ 4294967296
  case neg => rw [if_neg hc] at hr; cases hr
  rw [if_pos hc] at hr
  simp only [Option.some.injEq] at hr
  subst hr
  refine body_gen noOrc_ok fxMix (by kernel_rfl) (by simp [Try.ntmps16]) ?_
  intro C cP cI cN cD
  replace cI : C.inl = fun _ => false := cI
  replace cD : C.dyn = fun _ => [] := cD
  clear cP cN
  simp [Try.ntmps16, Try.results16, cSl, cI, cD, rSlot, Slot.row]
  split
  · rename_i hn
    have hn : l.length = m.length := by omega
    refine loop_for l.length (fun k (_ : Unit) => ([(0, .fsl false 17 (l.map Slot.row)), (1, .fsl false 17 (m.map Slot.row)), (12, .v (.int .i64 l.length)), (13, .v (.int .i64 k))], [])) (fun k _ => l.drop k = m.drop k ↔ l = m) () hc (by simp) (by simp) ?_ ?_
    · intro k _ hk hall hw
      have hk3 : k < m.length := by omega
      rw [List.drop_eq_getElem_cons hk, List.drop_eq_getElem_cons hk3, List.cons.injEq] at hall
      have he := slot_eq l[k] m[k]
      by_cases q2 : l[k] = m[k]
      · have q3 := he.1 q2
        clear he
        simp only [q2, true_and] at hall
        simp [Try.ntmps16, Try.results16, cSl, cI, cD, hk, hk3, hw, rSlot, Slot.row, q3]
        exact hall
      · have hne : ¬ l = m := fun h => q2 (hall.2 h).1
        simp [Try.ntmps16, Try.results16, cSl, cI, cD, hk, hk3, hw, rSlot, Slot.row]
        split
        · exact hne
        · rename_i q
          exact absurd (he.2 (by simp_all)) q2
    · intro _ hall
      simp [hn] at hall
      simp [Try.ntmps16, Try.results16, cSl, cI, cD, hall]
  · rename_i hn
    rintro rfl
    exact hn rfl

theorem swaps_pure : PureOk Try.prog 11 ( finM (some (.v (.bool true)))) := by
  refine pure0 Try.func11 rfl ?_
  rintro  r hr
  simp only [Option.some.injEq] at hr
  subst hr
  refine body_gen (noOrc_ok.withP swPut_pure) fxMix (by kernel_rfl) (by simp [Try.ntmps11]) ?_
  intro C cP cI cN cD
  have cp0 := orcP swPut_pure (C := C) (by rw [cP]; rfl)
  replace cI : C.inl = fun _ => false := cI
  replace cD : C.dyn = fun _ => [] := cD
  clear cP cN
  have h1 : swPut [noSlot] { noPg with b0 := 5 } 2 = .ok ([⟨2, { noPg with b0 := 5 }⟩], 0) := rfl
  simp only [noSlot, noPg] at h1
  simp [Try.ntmps11, Try.results11, cSl, cp0, cI, cD, rSlot, rPg, Slot.row, slotDec, pgDec, h1, putE]

theorem put_ok {l a : List Slot} {d : Pg} {m : Int} {k : Nat} (h : swPut l d m = .ok (a, k)) : swCheck l = 0 ∧ 1 ≤ m ∧ m ≤ 1024 ∧ (∃ hk : k < l.length, l[k] = noSlot) ∧ a = l.set k ⟨m, d⟩ ∧ swCheck a = 0 := by
  unfold swPut at h
  split at h
  · rename_i h0
    split at h
    · cases h
    · rename_i h1
      split at h
      · rename_i k' hk
        simp at h
        obtain ⟨rfl, rfl⟩ := h
        obtain ⟨hk, h2, _⟩ := List.findIdx?_eq_some_iff_getElem.1 hk
        have g := swCheck_iff.1 h0
        have hs := slot_ok.1 (g.2 _ (List.getElem_mem hk))
        refine ⟨h0, by omega, by omega, ⟨hk, hs.2.2 (by simpa [Slot.free] using h2)⟩, rfl, ?_⟩
        rw [swCheck_iff]
        refine ⟨by simpa using g.1, fun s hs => ?_⟩
        rcases List.mem_or_eq_of_mem_set hs with hs | rfl
        · exact g.2 s hs
        · rw [slot_ok]; simp; omega
      · cases h
  · cases h
theorem more_ok {l a : List Slot} {k n : Int} {b : Bool} (h : swMore l k n = .ok (a, b)) : swUsed l k = 0 ∧ 0 ≤ (swGet l k).many + n ∧ (swGet l k).many + n ≤ 1024 ∧ a = l.set k.toNat (if (swGet l k).many + n = 0 then noSlot else ⟨(swGet l k).many + n, (swGet l k).data⟩) ∧ b = ((swGet l k).many + n == 0) ∧ swCheck a = 0 := by
  unfold swMore at h
  split at h
  · rename_i h0
    split at h
    · cases h
    · rename_i h1
      simp at h
      obtain ⟨rfl, rfl⟩ := h
      obtain ⟨g1, g2, g3, g4⟩ := swUsed_ok.1 h0
      have g := swCheck_iff.1 g1
      refine ⟨h0, by omega, by omega, rfl, rfl, ?_⟩
      rw [swCheck_iff]
      refine ⟨by simpa using g.1, fun s hs => ?_⟩
      rcases List.mem_or_eq_of_mem_set hs with hs | rfl
      · exact g.2 s hs
      · split
        · decide
        · rw [slot_ok]; simp; omega
  · cases h
theorem swGet_set {l : List Slot} {k : Nat} {j : Int} {s : Slot} (h0 : 0 ≤ j) (h : ¬ j = k) : swGet (l.set k s) j = swGet l j := by
  unfold swGet
  rw [List.getElem?_set_ne (by omega)]
theorem swUsed_set {l : List Slot} {k : Nat} {j : Int} {s : Slot} (h : ¬ j = k) (hu : swUsed l j = 0) (hc : swCheck (l.set k s) = 0) : swUsed (l.set k s) j = 0 := by
  obtain ⟨g1, g2, g3, g4⟩ := swUsed_ok.1 hu
  rw [swUsed_ok]
  refine ⟨hc, g2, by simpa using g3, ?_⟩
  rw [swGet_set g2 h]; exact g4
theorem putErr {l : List Slot} {d : Pg} {m e : Int} (h : swPut l d m = .error e) : ¬ e = 0 := by
  unfold swPut at h
  split at h
  · split at h
    · simp at h; omega
    · split at h
      · cases h
      · simp at h; omega
  · simp at h; omega
theorem moreErr {l : List Slot} {k n e : Int} (h : swMore l k n = .error e) : ¬ e = 0 := by
  unfold swMore at h
  split at h
  · split at h
    · simp at h; omega
    · cases h
  · simp at h; omega

theorem apart_pure : PureOk Try.prog 3 (argM (cSl rSlot) fun l => argM (cAgg rPg) fun data => argM (cInt .i64) fun many => argM (cInt .i64) fun k => argM (cInt .i64) fun more => argM (cInt .i64) fun other => finM (some (.v (.bool true)))) := by
  refine pure6 Try.func3 rfl ?_
  rintro l data many k more other r hr
  simp only [Option.some.injEq] at hr
  subst hr
  refine body_gen ((((noOrc_ok.withP swaps_pure).withP swGet_pure).withP swPut_pure).withP swMore_pure) fxMix (by kernel_rfl) (by simp [Try.ntmps3]) ?_
  intro C cP cI cN cD
  have cp0 := orcP swaps_pure (C := C) (by rw [cP]; rfl)
  have cp1 := orcP swGet_pure (C := C) (by rw [cP]; rfl)
  have cp2 := orcP swPut_pure (C := C) (by rw [cP]; rfl)
  have cp3 := orcP swMore_pure (C := C) (by rw [cP]; rfl)
  replace cI : C.inl = fun _ => false := cI
  replace cD : C.dyn = fun _ => [] := cD
  clear cP cN
  by_cases h0 : swUsed l other = 0
  · obtain ⟨u1, u2, u3, u4⟩ := swUsed_ok.1 h0
    have tail : ∀ a b, swMore l k more = .ok (a, b) → ¬ k = other → swUsed a other = 0 ∧ swGet a other = swGet l other := by
      intro a b h hne
      obtain ⟨m1, m2, m3, m4, m5, m6⟩ := more_ok h
      obtain ⟨v1, v2, v3, v4⟩ := swUsed_ok.1 m1
      have hne' : ¬ other = (k.toNat : Int) := by omega
      rw [m4] at m6 ⊢
      exact ⟨swUsed_set hne' h0 m6, swGet_set u2 hne'⟩
    cases h1 : swPut l data many with
    | error e =>
      have he := putErr h1
      cases h2 : swMore l k more with
      | error e2 =>
        have he2 := moreErr h2
        simp [Try.ntmps3, Try.results3, cSl, cp0, cp1, cp2, cp3, cI, cD, rSlot, rPg, Pg.row, pgDec, h0, h1, h2, putE, moreE, he, he2, Pg.val]
      | ok p =>
        obtain ⟨a, b⟩ := p
        by_cases hne : k = other
        · subst hne; simp [Try.ntmps3, Try.results3, cSl, cp0, cp1, cp2, cp3, cI, cD, rSlot, rPg, Pg.row, pgDec, h0, h1, h2, putE, moreE, he, Pg.val]
        · obtain ⟨t1, t2⟩ := tail a b h2 hne
          simp [Try.ntmps3, Try.results3, cSl, cp0, cp1, cp2, cp3, cI, cD, rSlot, rPg, Pg.row, pgDec, h0, h1, h2, putE, moreE, he, hne, Pg.val, t1, t2]
    | ok p =>
      obtain ⟨a1, k1⟩ := p
      obtain ⟨p1, p2, p3, ⟨p4, p5⟩, p6, p7⟩ := put_ok h1
      have hne1 : ¬ other = (k1 : Int) := by
        rintro rfl
        simp [swGet, p4, p5, noSlot] at u4
      have hne2 : ¬ (k1 : Int) = other := fun h => hne1 h.symm
      rw [p6] at p7
      have t3 := swUsed_set hne1 h0 p7
      have t4 := swGet_set (l := l) (s := ⟨many, data⟩) u2 hne1
      rw [← p6] at t3 t4
      cases h2 : swMore l k more with
      | error e2 =>
        have he2 := moreErr h2
        simp [Try.ntmps3, Try.results3, cSl, cp0, cp1, cp2, cp3, cI, cD, rSlot, rPg, Pg.row, pgDec, h0, h1, h2, putE, moreE, he2, Pg.val, t3, t4, hne2]
      | ok p =>
        obtain ⟨a, b⟩ := p
        by_cases hne : k = other
        · subst hne; simp [Try.ntmps3, Try.results3, cSl, cp0, cp1, cp2, cp3, cI, cD, rSlot, rPg, Pg.row, pgDec, h0, h1, h2, putE, moreE, Pg.val, t3, t4, hne2]
        · obtain ⟨t1, t2⟩ := tail a b h2 hne
          simp [Try.ntmps3, Try.results3, cSl, cp0, cp1, cp2, cp3, cI, cD, rSlot, rPg, Pg.row, pgDec, h0, h1, h2, putE, moreE, hne, Pg.val, t1, t2, t3, t4, hne2]
  · simp [Try.ntmps3, Try.results3, cSl, cp0, cp1, cp2, cp3, cI, cD, rSlot, rPg, Pg.row, pgDec, h0, Pg.val, noPg]

theorem sw_set (l : List Slot) (k : Nat) (s : Slot) (hk : k < l.length) : swN (l.set k s) = swN l - (if 0 < l[k].many then 1 else 0) + (if 0 < s.many then 1 else 0) ∧ swSum (l.set k s) = swSum l - l[k].many + s.many := by
  induction l generalizing k with
  | nil => simp at hk
  | cons t l ih =>
    cases k with
    | zero => simp only [List.set_cons_zero, swN, swSum, List.getElem_cons_zero]; omega
    | succ k =>
      obtain ⟨h1, h2⟩ := ih k (by simpa using hk)
      simp only [List.set_cons_succ, swN, swSum, h1, h2, List.getElem_cons_succ]
      omega
theorem swN_full {l : List Slot} (h : swN l = l.length) : ∀ s ∈ l, 0 < s.many := by
  induction l with
  | nil => simp
  | cons t l ih =>
    simp only [swN, List.length_cons] at h
    have := swN_le l
    intro s hs
    rcases List.mem_cons.1 hs with rfl | hs
    · split at h
      · assumption
      · omega
    · exact ih (by split at h <;> omega) s hs

theorem counts_pure : PureOk Try.prog 4 (argM (cSl rSlot) fun l => argM (cAgg rPg) fun data => argM (cInt .i64) fun many => argM (cInt .i64) fun k => argM (cInt .i64) fun more => finM (some (.v (.bool true)))) := by
  refine pure5 Try.func4 rfl ?_
  rintro l data many k more r hr
  simp only [Option.some.injEq] at hr
  subst hr
  refine body_gen ((((noOrc_ok.withP swaps_pure).withP swMany_pure).withP swPut_pure).withP swMore_pure) fxMix (by kernel_rfl) (by simp [Try.ntmps4]) ?_
  intro C cP cI cN cD
  have cp0 := orcP swaps_pure (C := C) (by rw [cP]; rfl)
  have cp1 := orcP swMany_pure (C := C) (by rw [cP]; rfl)
  have cp2 := orcP swPut_pure (C := C) (by rw [cP]; rfl)
  have cp3 := orcP swMore_pure (C := C) (by rw [cP]; rfl)
  replace cI : C.inl = fun _ => false := cI
  replace cD : C.dyn = fun _ => [] := cD
  clear cP cN
  by_cases h0 : swCheck l = 0
  · obtain ⟨g1, g2⟩ := swCheck_iff.1 h0
    have n1 := swN_le l
    have n2 := swSum_le g2
    have tail : ∀ a b, swMore l k more = .ok (a, b) → swCheck a = 0 ∧ swSum a = swSum l + more ∧ swN a = (if b = true then swN l - 1 else swN l) ∧ IntKind.i64.wrap (swSum l + more) = swSum l + more ∧ IntKind.i64.wrap (swN l - 1) = swN l - 1 := by
      intro a b h
      obtain ⟨m1, m2, m3, m4, m5, m6⟩ := more_ok h
      obtain ⟨v1, v2, v3, v4⟩ := swUsed_ok.1 m1
      have hk : k.toNat < l.length := by omega
      have hg : swGet l k = l[k.toNat] := by simp [swGet, hk]
      have hs := slot_ok.1 (g2 _ (List.getElem_mem hk))
      rw [hg] at m2 m3 m4 m5 v4
      obtain ⟨s1, s2⟩ := sw_set l k.toNat (if l[k.toNat].many + more = 0 then noSlot else ⟨l[k.toNat].many + more, l[k.toNat].data⟩) hk
      rw [← m4] at s1 s2
      have n3 := swSum_le (swCheck_iff.1 m6).2
      have hs2 : swSum a = swSum l + more := by
        rw [s2]; split
        · simp [noSlot]; omega
        · simp; omega
      refine ⟨m6, hs2, ?_, w64 (by omega) (by omega), w64 (by omega) (by omega)⟩
      rw [s1, m5]
      by_cases q : l[k.toNat].many + more = 0
      · simp [q, noSlot]; omega
      · simp [q]; split <;> split <;> omega
    cases h1 : swPut l data many with
    | error e =>
      have he := putErr h1
      have hfull : swN l = l.length ∧ 1 ≤ many ∧ many ≤ 1024 → e = 6 := by
        rintro ⟨f1, f2, f3⟩
        unfold swPut at h1
        rw [if_pos h0, if_neg (by omega)] at h1
        split at h1
        · cases h1
        · simp at h1; exact h1.symm
      have hnot : ¬ (((swN l = l.length ∧ 1 ≤ many) ∧ many ≤ 1024) ∧ ¬ e = 6) := fun h => h.2 (hfull ⟨h.1.1.1, h.1.1.2, h.1.2⟩)
      cases h2 : swMore l k more with
      | error e2 =>
        have he2 := moreErr h2
        simp [Try.ntmps4, Try.results4, cSl, cp0, cp1, cp2, cp3, cI, cD, rSlot, rPg, Pg.row, pgDec, h0, h1, h2, putE, moreE, he, he2, hnot]
      | ok p =>
        obtain ⟨a, b⟩ := p
        obtain ⟨t1, t2, t3, t4, t5⟩ := tail a b h2
        cases b
        · simp [Try.ntmps4, Try.results4, cSl, cp0, cp1, cp2, cp3, cI, cD, rSlot, rPg, Pg.row, pgDec, h0, h1, h2, putE, moreE, he, hnot, t1, t2, t3, t4]
        · simp [Try.ntmps4, Try.results4, cSl, cp0, cp1, cp2, cp3, cI, cD, rSlot, rPg, Pg.row, pgDec, h0, h1, h2, putE, moreE, he, hnot, t1, t2, t3, t4, t5]
    | ok p =>
      obtain ⟨a1, k1⟩ := p
      obtain ⟨p1, p2, p3, ⟨p4, p5⟩, p6, p7⟩ := put_ok h1
      obtain ⟨s1, s2⟩ := sw_set l k1 ⟨many, data⟩ p4
      rw [← p6] at s1 s2
      rw [p5] at s1 s2
      have s3 : swN a1 = swN l + 1 := by rw [s1]; simp [noSlot]; omega
      have s4 : swSum a1 = swSum l + many := by rw [s2]; simp [noSlot]
      have w1 : IntKind.i64.wrap (swN l + 1) = swN l + 1 := w64 (by omega) (by omega)
      have w2 : IntKind.i64.wrap (swSum l + many) = swSum l + many := w64 (by omega) (by omega)
      cases h2 : swMore l k more with
      | error e2 =>
        have he2 := moreErr h2
        simp [Try.ntmps4, Try.results4, cSl, cp0, cp1, cp2, cp3, cI, cD, rSlot, rPg, Pg.row, pgDec, h0, h1, h2, putE, moreE, he2, p7, s3, s4, w1, w2]
      | ok p =>
        obtain ⟨a, b⟩ := p
        obtain ⟨t1, t2, t3, t4, t5⟩ := tail a b h2
        cases b
        · simp [Try.ntmps4, Try.results4, cSl, cp0, cp1, cp2, cp3, cI, cD, rSlot, rPg, Pg.row, pgDec, h0, h1, h2, putE, moreE, p7, s3, s4, w1, w2, t1, t2, t3, t4]
        · simp [Try.ntmps4, Try.results4, cSl, cp0, cp1, cp2, cp3, cI, cD, rSlot, rPg, Pg.row, pgDec, h0, h1, h2, putE, moreE, p7, s3, s4, w1, w2, t1, t2, t3, t4, t5]
  · simp [Try.ntmps4, Try.results4, cSl, cp0, cp1, cp2, cp3, cI, cD, rSlot, rPg, Pg.row, pgDec, h0]

theorem back_pure : PureOk Try.prog 5 (argM (cSl rSlot) fun l => argM (cAgg rPg) fun data => argM (cInt .i64) fun many => finM (some (.v (.bool true)))) := by
  refine pure3 Try.func5 rfl ?_
  rintro l data many r hr
  simp only [Option.some.injEq] at hr
  subst hr
  refine body_gen ((((((noOrc_ok.withP swaps_pure).withP swGet_pure).withP swPut_pure).withP swMore_pure).withP good_pure).withP swEqual_pure) fxMix (by kernel_rfl) (by simp [Try.ntmps5]) ?_
  intro C cP cI cN cD
  have cp0 := orcP swaps_pure (C := C) (by rw [cP]; rfl)
  have cp1 := orcP swGet_pure (C := C) (by rw [cP]; rfl)
  have cp2 := orcP swPut_pure (C := C) (by rw [cP]; rfl)
  have cp3 := orcP swMore_pure (C := C) (by rw [cP]; rfl)
  have cp4 := orcP good_pure (C := C) (by rw [cP]; rfl)
  have cp5 := orcP swEqual_pure (C := C) (by rw [cP]; rfl)
  replace cI : C.inl = fun _ => false := cI
  replace cD : C.dyn = fun _ => [] := cD
  clear cP cN
  cases h1 : swPut l data many with
  | error e =>
    have he := putErr h1
    simp [Try.ntmps5, Try.results5, cSl, cp0, cp1, cp2, cp3, cp4, cp5, cI, cD, rSlot, rPg, Pg.row, pgDec, h1, putE, he]
  | ok p =>
    obtain ⟨a, k⟩ := p
    obtain ⟨p1, p2, p3, ⟨p4, p5⟩, p6, p7⟩ := put_ok h1
    have hk : k < a.length := by rw [p6]; simpa using p4
    have g1 : swGet a k = ⟨many, data⟩ := by simp [swGet, p6, p4]
    have u1 : swUsed a k = 0 := by
      rw [swUsed_ok, g1]
      exact ⟨p7, by omega, by omega, by simp; omega⟩
    have w1 : IntKind.i64.wrap (-many) = -many := w64 (by omega) (by omega)
    have hset : a.set k noSlot = l := by
      rw [p6, List.set_set, ← p5]; exact List.set_getElem_self p4
    have m1 : swMore a k (-many) = .ok (l, true) := by
      unfold swMore
      rw [if_pos u1, g1]
      have : ¬ (-many < -many ∨ 1024 - many < -many) := by omega
      rw [if_neg this]
      simp [show many + -many = 0 by omega, hset]
    have u2 : swUsed l k = 4 := by
      unfold swUsed
      simp [p1, swGet, p4, p5, noSlot]
    have hl : l.length ≤ 4294967296 := by have := (swCheck_iff.1 p1).1; omega
    simp [Try.ntmps5, Try.results5, cSl, cp0, cp1, cp2, cp3, cp4, cp5, cI, cD, rSlot, rPg, Pg.row, pgDec, h1, putE, u1, g1, w1, m1, moreE, u2, Pg.val, noPg, hl, rI, irow, irowDec]
end Go.Proofs.Ytkajpjbjafjbkaa
