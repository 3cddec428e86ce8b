/- Package swap, more. -/
import Derived.Test.YtkajpjbjafjbkaaSwA
namespace Go.Proofs.Ytkajpjbjafjbkaa
open Go.AI
set_option maxHeartbeats 2000000
set_option linter.unusedSimpArgs false
set_option linter.unusedVariables false
attribute [local simp] wpA wpX RunA RunD runF foot footP bare apart runL step1 gsel_f gsel_t gsel_s res_same res_and1 res_and2 res_and3 res_and4 res_and5 res_and6 res_false res_true res_v res_ptr res_fptr res_osl res_fsl res_esl res_agg res_tup res_fn res_junk res_anyb aPick hk imp_left iteV dstOk guardOk astep astepE AI.ev AI.look AI.put envOf aBox cellsOf allOne allOneA oneA Value.oneCell' Value.cells newObj' aFieldAddr aLoad obj readAt thenA blockA condA retA resA tupA view hot hotC hotR depthV cAgg cInt cBool mkAgg allV aAlloc aBuild fillA writeAt aStore isAggA aField idx aIndexAddr aIndex bnd aSlice aExtract aLen aBuiltin aCall isStatic eqAgg eqTy eqC ev_add ev_sub ev_mul ev_quo ev_rem ev_and ev_or ev_xor ev_andNot ev_shl ev_shr ev_eql ev_neq ev_lss ev_leq ev_gtr ev_geq ev_agg w64 wu32 wu8 ev_not ev_neg Cod.plain RCod.plain argM finM cold coldC coldR goInt intDec boolDec aggDec Weaker heapW lowA lowC Again slDec undef aBuildSlice setRows aAppend rowsOf aMakeSlice aClear aCopy softer_self softer_nil valsOf ev_min2 ev_max2 hotR_set hotR_append take_map_set irow_cold irow_mapM irow_mapMc irow_view irow_viewc irow_hotR irow_ren irow_renc irow_low WeakT heapT thOf ren renC AgainT NextF NextT fnDec cFn rNil selfLt natLt0 natLt1 getLastMap fxSz2 fxBy2 fxAg2 fxZe2 fxSl2 fxAr2 fxPl2 fxSz3 fxBy3 fxAg3 fxZe3 fxSl3 fxAr3 fxPl3 fxSz4 fxBy4 fxAg4 fxZe4 fxSl4 fxAr4 fxPl4 fxSz5 fxBy5 fxAg5 fxZe5 fxSl5 fxAr5 fxPl5 fxSz9 fxBy9 fxAg9 fxZe9 fxSl9 fxAr9 fxPl9 fxSz12 fxBy12 fxAg12 fxZe12 fxSl12 fxAr12 fxPl12 fxSz13 fxBy13 fxAg13 fxZe13 fxSl13 fxAr13 fxFi13x0 fxFi13x1 fxPl13 fxSz21 fxBy21 fxAg21 fxZe21 fxSl21 fxAr21 fxPl21 fxSz22 fxBy22 fxAg22 fxZe22 fxSl22 fxAr22 fxPl22 fxSz23 fxBy23 fxAg23 fxZe23 fxSl23 fxAr23 fxPl23 fxSz24 fxBy24 fxAg24 fxZe24 fxSl24 fxAr24 fxPl24 fxSz38 fxBy38 fxAg38 fxZe38 fxSl38 fxAr38 fxFi38x0 fxFi38x1 fxPl38 fxSz39 fxBy39 fxAg39 fxZe39 fxSl39 fxAr39 fxFi39x0 fxFi39x1 fxPl39 fxSz41 fxBy41 fxAg41 fxZe41 fxSl41 fxAr41 fxFi41x0 fxFi41x1 fxFi41x2 fxFi41x3 fxFi41x4 fxFi41x5 fxFi41x6 fxPl41 fxSz42 fxBy42 fxAg42 fxZe42 fxSl42 fxAr42 fxFi42x0 fxFi42x1 fxFi42x2 fxFi42x3 fxFi42x4 fxFi42x5 fxFi42x6 fxPl42 fxSz43 fxBy43 fxAg43 fxZe43 fxSl43 fxAr43 fxFi43x0 fxFi43x1 fxFi43x2 fxFi43x3 fxPl43 fxSz44 fxBy44 fxAg44 fxZe44 fxSl44 fxAr44 fxFi44x0 fxFi44x1 fxFi44x2 fxFi44x3 fxPl44 fxSz45 fxBy45 fxAg45 fxZe45 fxSl45 fxAr45 fxPl45 fxSz57 fxBy57 fxAg57 fxZe57 fxSl57 fxAr57 fxPl57 fxSz68 fxBy68 fxAg68 fxZe68 fxSl68 fxAr68 fxPl68 fxSz72 fxBy72 fxAg72 fxZe72 fxSl72 fxAr72 fxPl72 fxSz73 fxBy73 fxAg73 fxZe73 fxSl73 fxAr73 fxFi73x0 fxPl73 fxSz76 fxBy76 fxAg76 fxZe76 fxSl76 fxAr76 fxPl76 fxSz80 fxBy80 fxAg80 fxZe80 fxSl80 fxAr80 fxPl80 fxSz85 fxBy85 fxAg85 fxZe85 fxSl85 fxAr85 fxPl85 fxEq23 fxEq39 fxEq42 fxEq44 fxCv2x2 fxCv2x3 fxCv2x5 fxCv2x12 fxCv2x21 fxCv2x24 fxCv2x76 fxCv3x2 fxCv3x3 fxCv3x5 fxCv3x12 fxCv3x21 fxCv3x24 fxCv3x76 fxCv5x2 fxCv5x3 fxCv5x5 fxCv5x12 fxCv5x21 fxCv5x24 fxCv5x76 fxCv12x2 fxCv12x3 fxCv12x5 fxCv12x12 fxCv12x21 fxCv12x24 fxCv12x76 fxCv21x2 fxCv21x3 fxCv21x5 fxCv21x12 fxCv21x21 fxCv21x24 fxCv21x76 fxCv24x2 fxCv24x3 fxCv24x5 fxCv24x12 fxCv24x21 fxCv24x24 fxCv24x76 fxCv76x2 fxCv76x3 fxCv76x5 fxCv76x12 fxCv76x21 fxCv76x24 fxCv76x76 fxEb4 fxNb4 fxLt9 fxLn22 fxNe22 fxNn22 fxLn45 fxNe45 fxNn45 fxLn57 fxNe57 fxNn57 fxFn3 fxFb3 fxFn4 fxFb4 fxFn5 fxFb5 fxFn6 fxFb6 fxFn7 fxFb7 fxFn8 fxFb8 fxFn9 fxFb9 fxFn10 fxFb10 fxFn11 fxFb11 fxFn12 fxFb12 fxFn13 fxFb13 fxFn14 fxFb14 fxFn15 fxFb15 fxFn16 fxFb16 fxFn17 fxFb17 fxFn18 fxFb18 fxFn19 fxFb19 fxFn20 fxFb20 fxFn21 fxFb21 fxFn22 fxFb22 fxFn23 fxFb23 fxFn24 fxFb24 fxFn25 fxFb25 fxFn26 fxFb26 fxFn27 fxFb27 fxFn28 fxFb28 fxFn29 fxFb29 fxFn30 fxFb30 fxFn31 fxFb31 fxFn32 fxFb32 fxFn33 fxFb33 fxFn34 fxFb34
attribute [local simp] Pg.eta Pg.cold Pg.mapM Pg.mapMc Pg.view Pg.viewc Pg.hotR Pg.ren Pg.renc Pg.low
attribute [local simp] Slot.eta Slot.cold Slot.mapM Slot.mapMc Slot.view Slot.viewc Slot.hotR Slot.ren Slot.renc Slot.low
theorem swClone_inl : InlOk Try.prog 26 (cloneI 17) := by
  refine inl_soft Try.func26 rfl ?_
  intro args H r H' hr
  obtain ⟨o, rows, rfl, hl, hc⟩ := cloneI_some hr
  refine ⟨by simp [Try.ntmps26], wpA_sound noOrc_ok fxMix _ _ _ _ (by kernel_rfl) ?_⟩
  rcases hc with ⟨rfl, rfl, rfl⟩ | ⟨h0, rfl, rfl⟩
  · simp [Try.ntmps26, Try.results26, noOrc]
  · simp [Try.ntmps26, Try.results26, h0, hl, noOrc]
def Slot.free (s : Slot) : Bool := s.many == 0
theorem free_pure : PureOk Try.prog 25 (argM (cAgg rSlot) fun s => finM (some (.v (.bool s.free)))) := by
  refine pure1 Try.func25 rfl ?_
  rintro s r hr
  simp only [Option.some.injEq] at hr
  subst hr
  refine body_gen noOrc_ok fxMix (by kernel_rfl) (by simp [Try.ntmps25]) ?_
  intro C cP cI cN cD
  replace cI : C.inl = fun _ => false := cI
  replace cD : C.dyn = fun _ => [] := cD
  clear cP cN
  simp [Try.ntmps25, Try.results25, cSl, cI, cD, rSlot, Slot.row, slotDec, Slot.free]
theorem swIdx_pure : PureOk Try.prog 24 (argM (cSl rSlot) fun l => argM (cFn 25 rNil) fun cp => finM (if l.length ≤ 4294967296 then some (.v (.int .i64 (idxP (Slot.free) l))) else none)) := by
  refine pure2 Try.func24 rfl ?_
  rintro l cp r hr
  by_cases hc : l.length ≤ 4294967296
  case neg => rw [if_neg hc] at hr; cases hr
  rw [if_pos hc] at hr
  simp only [Option.some.injEq] at hr
  subst hr
  refine body_gen (noOrc_ok.withP free_pure) fxMix (by kernel_rfl) (by simp [Try.ntmps24]) ?_
  intro C cP cI cN cD
  have cp0 := orcP free_pure (C := C) (by rw [cP]; rfl)
  replace cI : C.inl = fun _ => false := cI
  replace cD : C.dyn = fun _ => [] := cD
  clear cP cN
  simp [Try.ntmps24, Try.results24, cSl, cp0, cI, cD, rSlot, Slot.row, slotDec]
  refine loop_for l.length (fun k (_ : Unit) => ([(0, .fsl false 17 (l.map Slot.row)), (1, .fn 25 []), (7, .v (.int .i64 l.length)), (8, .v (.int .i64 k))], [])) (fun k _ => ((l.drop k).findIdx? (Slot.free)).map (· + k) = l.findIdx? (Slot.free)) () hc (by simp) (by simp [rSlot, Slot.row, slotDec]) ?_ ?_
  · intro k _ hk hall hw
    by_cases q : (Slot.free) l[k] = true
    · rw [find_drop hk, if_pos q] at hall
      try simp at q
      simp [Try.ntmps24, Try.results24, cSl, cp0, cI, cD, hk, hw, rSlot, Slot.row, slotDec, q, idxP, ← hall]
    · rw [find_drop hk, if_neg q] at hall
      try simp at q
      simp [Try.ntmps24, Try.results24, cSl, cp0, cI, cD, hk, hw, rSlot, Slot.row, slotDec, q]
      simpa using hall
  · intro _ hall
    simp at hall
    simp [Try.ntmps24, Try.results24, cSl, cp0, cI, cD, idxP, ← hall]

theorem swAll_get {l : List Slot} {s : Slot} (h : swAll l = 0) (hs : s ∈ l) : s.chk = 0 := by
  induction l with
  | nil => simp at hs
  | cons g l ih =>
    simp only [swAll] at h
    split at h
    · rename_i hg
      rcases List.mem_cons.1 hs with rfl | hs
      · exact hg
      · exact ih h hs
    · rename_i hg; exact absurd h hg
theorem swAll_of {l : List Slot} (h : ∀ s ∈ l, s.chk = 0) : swAll l = 0 := by
  induction l with
  | nil => rfl
  | cons g l ih => simp [swAll, h g (by simp), ih (fun s hs => h s (by simp [hs]))]
theorem swCheck_iff {l : List Slot} : swCheck l = 0 ↔ l.length ≤ 64 ∧ ∀ s ∈ l, s.chk = 0 := by
  unfold swCheck
  split
  · rename_i h; simp; intro; omega
  · rename_i h; exact ⟨fun h2 => ⟨by omega, fun s hs => swAll_get h2 hs⟩, fun h2 => swAll_of h2.2⟩
theorem slot_ok {s : Slot} : s.chk = 0 ↔ 0 ≤ s.many ∧ s.many ≤ 1024 ∧ (s.many = 0 → s = noSlot) := by
  unfold Slot.chk
  split
  · rename_i h; simp; omega
  · split
    · rename_i h1 h2; simp [h2]
    · rename_i h1 h2
      simp
      refine ⟨by omega, by omega, fun h => ?_⟩
      exact Classical.byContradiction fun hn => h2 ⟨h, hn⟩

/-- swap.Put -/
def swPut (l : List Slot) (d : Pg) (many : Int) : Except Int (List Slot × Nat) :=
  if swCheck l = 0 then
    if many < 1 ∨ 1024 < many then .error 1
    else match l.findIdx? Slot.free with
      | some k => .ok (l.set k ⟨many, d⟩, k)
      | none => .error 6
  else .error (swCheck l)
def putE : Except Int (List Slot × Nat) → AVal
  | .ok (l, k) => .tup [.fsl true 17 (l.map Slot.row), .v (.int .i64 k), .v (.int .i64 0)]
  | .error e => .v (.tuple #[.slice none 0 0, .int .i64 0, .int .i64 e])

theorem swPut_pure : PureOk Try.prog 12 (argM (cSl rSlot) fun l => argM (cAgg rPg) fun d => argM (cInt .i64) fun many => finM (some (putE (swPut l d many)))) := by
  refine pure3 Try.func12 rfl ?_
  rintro l d many r hr
  simp only [Option.some.injEq] at hr
  subst hr
  refine body_gen (((noOrc_ok.withP swCheck_pure).withP swIdx_pure).withI swClone_inl) fxMix (by kernel_rfl) (by simp [Try.ntmps12]) ?_
  intro C cP cI cN cD
  have cp0 := orcP swCheck_pure (C := C) (by rw [cP]; rfl)
  have cp1 := orcP swIdx_pure (C := C) (by rw [cP]; rfl)
  have cn0 := orcI swClone_inl (C := C) (by rw [cN]; rfl)
  replace cI := fun g => congrFun cI g
  simp only [Orc.withP, Orc.withI, Orc.withD, noOrc] at cI
  replace cD : C.dyn = fun _ => [] := cD
  clear cP cN
  unfold swPut
  by_cases h0 : swCheck l = 0
  · obtain ⟨g1, g2⟩ := swCheck_iff.1 h0
    have hl : l.length ≤ 4294967296 := by omega
    by_cases h1 : many < 1 ∨ 1024 < many
    · simp [Try.ntmps12, Try.results12, cSl, cp0, cp1, cn0, cI, cD, rSlot, rPg, Pg.row, h0, h1, putE]
    · cases h2 : l.findIdx? Slot.free with
      | none => simp [Try.ntmps12, Try.results12, cSl, cp0, cp1, cn0, cI, cD, rSlot, rPg, Pg.row, h0, h1, hl, idxP, h2, putE]
      | some k =>
        obtain ⟨hk, _, _⟩ := List.findIdx?_eq_some_iff_getElem.1 h2
        have hne : ¬ l = [] := by rintro rfl; simp at hk
        simp [Try.ntmps12, Try.results12, cSl, cp0, cp1, cn0, cI, cD, rSlot, rPg, Pg.row, h0, h1, hl, idxP, h2, hk, hne, putE, cloneI, Slot.row]
  · simp [Try.ntmps12, Try.results12, cSl, cp0, cp1, cn0, cI, cD, rSlot, rPg, Pg.row, h0, putE]

/-- swap.used -/
def swGet (l : List Slot) (k : Int) : Slot := l[k.toNat]?.getD noSlot
def swUsed (l : List Slot) (k : Int) : Int := if swCheck l = 0 then (if (k < 0 ∨ (l.length : Int) ≤ k) ∨ (swGet l k).many = 0 then 4 else 0) else swCheck l
theorem swUsed_pure : PureOk Try.prog 22 (argM (cSl rSlot) fun l => argM (cInt .i64) fun k => finM (some (.v (.int .i64 (swUsed l k))))) := by
  refine pure2 Try.func22 rfl ?_
  rintro l k r hr
  simp only [Option.some.injEq] at hr
  subst hr
  refine body_gen (noOrc_ok.withP swCheck_pure) fxMix (by kernel_rfl) (by simp [Try.ntmps22]) ?_
  intro C cP cI cN cD
  have cp0 := orcP swCheck_pure (C := C) (by rw [cP]; rfl)
  replace cI : C.inl = fun _ => false := cI
  replace cD : C.dyn = fun _ => [] := cD
  clear cP cN
  unfold swUsed
  by_cases h0 : swCheck l = 0
  · by_cases h1 : k < 0 ∨ (l.length : Int) ≤ k
    · have h3 : ¬ (0 ≤ k ∧ k < (l.length : Int)) := by omega
      by_cases h4 : k < 0
      · simp [Try.ntmps22, Try.results22, cSl, cp0, cI, cD, rSlot, h0, h1, h3, h4]
      · have h5 : (l.length : Int) ≤ k := by omega
        simp [Try.ntmps22, Try.results22, cSl, cp0, cI, cD, rSlot, h0, h1, h3, h4, h5]
    · have h2 : k.toNat < l.length := by omega
      have h3 : 0 ≤ k := by omega
      have h4 : k < l.length := by omega
      have h5 : ¬ k < 0 := by omega
      have h6 : ¬ (l.length : Int) ≤ k := by omega
      simp [Try.ntmps22, Try.results22, cSl, cp0, cI, cD, rSlot, h0, h1, h2, h3, h4, h5, h6, swGet, Slot.row]
  · simp [Try.ntmps22, Try.results22, cSl, cp0, cI, cD, rSlot, h0]
theorem swUsed_ok {l : List Slot} {k : Int} : swUsed l k = 0 ↔ swCheck l = 0 ∧ 0 ≤ k ∧ k < l.length ∧ ¬ (swGet l k).many = 0 := by
  unfold swUsed
  split
  · rename_i h
    split
    · simp; omega
    · simp [h]; omega
  · rename_i h; simp [h]

theorem swGet_pure : PureOk Try.prog 10 (argM (cSl rSlot) fun l => argM (cInt .i64) fun k => finM (some (.v (.tuple #[(if swUsed l k = 0 then (swGet l k).data else noPg).val, .int .i64 (swUsed l k)])))) := by
  refine pure2 Try.func10 rfl ?_
  rintro l k r hr
  simp only [Option.some.injEq] at hr
  subst hr
  refine body_gen (noOrc_ok.withP swUsed_pure) fxMix (by kernel_rfl) (by simp [Try.ntmps10]) ?_
  intro C cP cI cN cD
  have cp0 := orcP swUsed_pure (C := C) (by rw [cP]; rfl)
  replace cI : C.inl = fun _ => false := cI
  replace cD : C.dyn = fun _ => [] := cD
  clear cP cN
  by_cases h0 : swUsed l k = 0
  · obtain ⟨g1, g2, g3, g4⟩ := swUsed_ok.1 h0
    have h2 : k.toNat < l.length := by omega
    simp [Try.ntmps10, Try.results10, cSl, cp0, cI, cD, rSlot, h0, h2, g2, g3, swGet, Slot.row, Pg.val]
  · simp [Try.ntmps10, Try.results10, cSl, cp0, cI, cD, rSlot, h0, Pg.val, noPg]

/-- swap.More -/
def swMore (l : List Slot) (k n : Int) : Except Int (List Slot × Bool) :=
  if swUsed l k = 0 then
    if n < - (swGet l k).many ∨ 1024 - (swGet l k).many < n then .error 1
    else .ok (l.set k.toNat (if (swGet l k).many + n = 0 then noSlot else ⟨(swGet l k).many + n, (swGet l k).data⟩), (swGet l k).many + n == 0)
  else .error (swUsed l k)
def moreE : Except Int (List Slot × Bool) → AVal
  | .ok (l, b) => .tup [.fsl true 17 (l.map Slot.row), .v (.bool b), .v (.int .i64 0)]
  | .error e => .v (.tuple #[.slice none 0 0, .bool false, .int .i64 e])
theorem swGet_ok {l : List Slot} {k : Int} (h : swUsed l k = 0) : (swGet l k).chk = 0 := by
  obtain ⟨g1, g2, g3, g4⟩ := swUsed_ok.1 h
  have h2 : k.toNat < l.length := by omega
  have : swGet l k = l[k.toNat] := by simp [swGet, h2]
  rw [this]
  exact (swCheck_iff.1 g1).2 _ (List.getElem_mem h2)

theorem swMore_pure : PureOk Try.prog 13 (argM (cSl rSlot) fun l => argM (cInt .i64) fun k => argM (cInt .i64) fun n => finM (some (moreE (swMore l k n)))) := by
  refine pure3 Try.func13 rfl ?_
  rintro l k n r hr
  simp only [Option.some.injEq] at hr
  subst hr
  refine body_gen ((noOrc_ok.withP swUsed_pure).withI swClone_inl) fxMix (by kernel_rfl) (by simp [Try.ntmps13]) ?_
  intro C cP cI cN cD
  have cp0 := orcP swUsed_pure (C := C) (by rw [cP]; rfl)
  have cn0 := orcI swClone_inl (C := C) (by rw [cN]; rfl)
  replace cI := fun g => congrFun cI g
  simp only [Orc.withP, Orc.withI, Orc.withD, noOrc] at cI
  replace cD : C.dyn = fun _ => [] := cD
  clear cP cN
  unfold swMore
  by_cases h0 : swUsed l k = 0
  · obtain ⟨g1, g2, g3, g4⟩ := swUsed_ok.1 h0
    have g5 := slot_ok.1 (swGet_ok h0)
    have h2 : k.toNat < l.length := by omega
    have hl : l.length ≤ 4294967296 := by have := (swCheck_iff.1 g1).1; omega
    have hne : ¬ l = [] := by rintro rfl; simp at h2
    have hg : swGet l k = l[k.toNat] := by simp [swGet, h2]
    rw [hg] at g5 ⊢
    have hw1 : IntKind.i64.wrap (-l[k.toNat].many) = -l[k.toNat].many := w64 (by omega) (by omega)
    have hw2 : IntKind.i64.wrap (1024-l[k.toNat].many) = 1024-l[k.toNat].many := w64 (by omega) (by omega)
    by_cases h1 : n < - l[k.toNat].many ∨ 1024 - l[k.toNat].many < n
    · simp [Try.ntmps13, Try.results13, cSl, cp0, cn0, cI, cD, rSlot, h0, h2, g2, g3, Slot.row, hw1, hw2, h1, moreE]
    · have hw3 : IntKind.i64.wrap (l[k.toNat].many + n) = l[k.toNat].many + n := w64 (by omega) (by omega)
      by_cases h3 : l[k.toNat].many + n = 0
      · simp [Try.ntmps13, Try.results13, cSl, cp0, cn0, cI, cD, rSlot, h0, h2, g2, g3, Slot.row, hw1, hw2, hw3, h1, h3, hl, hne, cloneI, moreE, noSlot, noPg]
      · simp [Try.ntmps13, Try.results13, cSl, cp0, cn0, cI, cD, rSlot, h0, h2, g2, g3, Slot.row, hw1, hw2, hw3, h1, h3, hl, hne, cloneI, moreE]
  · simp [Try.ntmps13, Try.results13, cSl, cp0, cn0, cI, cD, rSlot, h0, moreE]

/-- swap.Many -/
def swN : List Slot → Int
  | [] => 0
  | s :: r => (if 0 < s.many then 1 else 0) + swN r
def swSum : List Slot → Int
  | [] => 0
  | s :: r => s.many + swSum r
theorem swN_le (l : List Slot) : 0 ≤ swN l ∧ swN l ≤ l.length := by
  induction l with
  | nil => simp [swN]
  | cons s l ih => simp only [swN, List.length_cons]; split <;> omega
theorem swSum_le {l : List Slot} (h : ∀ s ∈ l, s.chk = 0) : 0 ≤ swSum l ∧ swSum l ≤ 1024 * l.length := by
  induction l with
  | nil => simp [swSum]
  | cons s l ih =>
    have := slot_ok.1 (h s (by simp))
    have := ih (fun s hs => h s (by simp [hs]))
    simp only [swSum, List.length_cons]; omega
theorem sw_take (l : List Slot) (k : Nat) (hk : k < l.length) : swN (l.take (k + 1)) = swN (l.take k) + (if 0 < l[k].many then 1 else 0) ∧ swSum (l.take (k + 1)) = swSum (l.take k) + l[k].many := by
  induction l generalizing k with
  | nil => simp at hk
  | cons s l ih =>
    cases k with
    | zero => simp [swN, swSum]
    | succ k =>
      obtain ⟨h1, h2⟩ := ih k (by simpa using hk)
      simp only [List.take_succ_cons, swN, swSum, h1, h2, List.getElem_cons_succ]
      omega

theorem swMany_pure : PureOk Try.prog 14 (argM (cSl rSlot) fun l => finM (some (.v (.tuple #[.int .i64 (if swCheck l = 0 then swN l else 0), .int .i64 (if swCheck l = 0 then swSum l else 0), .int .i64 (swCheck l)])))) := by
  refine pure1 Try.func14 rfl ?_
  rintro l r hr
  simp only [Option.some.injEq] at hr
  subst hr
  refine body_gen (noOrc_ok.withP swCheck_pure) fxMix (by kernel_rfl) (by simp [Try.ntmps14]) ?_
  intro C cP cI cN cD
  have cp0 := orcP swCheck_pure (C := C) (by rw [cP]; rfl)
  replace cI : C.inl = fun _ => false := cI
  replace cD : C.dyn = fun _ => [] := cD
  clear cP cN
  by_cases h0 : swCheck l = 0
  · obtain ⟨g1, g2⟩ := swCheck_iff.1 h0
    simp [Try.ntmps14, Try.results14, cSl, cp0, cI, cD, rSlot, h0]
    refine loop_for l.length (fun k (_ : Unit) => ([(6, .v (.int .i64 (swN (l.take k)))), (7, .v (.int .i64 (swSum (l.take k)))), (15, .fsl false 17 (l.map Slot.row)), (16, .v (.int .i64 l.length)), (17, .v (.int .i64 k))], [])) (fun k _ => True) () (by omega) trivial (by simp [swN, swSum]) ?_ ?_
    · intro k _ hk hall hw
      obtain ⟨q1, q2⟩ := sw_take l k hk
      have b1 := swN_le (l.take k)
      have b2 := swSum_le (l := l.take k) (fun s hs => g2 s (List.mem_of_mem_take hs))
      have b3 := slot_ok.1 (g2 _ (List.getElem_mem hk))
      simp at b1 b2
      have w1 : IntKind.i64.wrap (swSum (List.take k l) + l[k].many) = swSum (List.take k l) + l[k].many := w64 (by omega) (by omega)
      have w2 : IntKind.i64.wrap (swN (List.take k l) + 1) = swN (List.take k l) + 1 := w64 (by omega) (by omega)
      by_cases q : 0 < l[k].many
      · simp [Try.ntmps14, Try.results14, cSl, cp0, cI, cD, hk, hw, Slot.row, w1, w2, q1, q2, q]
      · simp [Try.ntmps14, Try.results14, cSl, cp0, cI, cD, hk, hw, Slot.row, w1, w2, q1, q2, q]
    · intro _ _
      simp [Try.ntmps14, Try.results14, cSl, cp0, cI, cD]
  · simp [Try.ntmps14, Try.results14, cSl, cp0, cI, cD, rSlot, h0]
end Go.Proofs.Ytkajpjbjafjbkaa
