/- Package fault: what its functions answer, at every argument. -/
import Derived.Test.YtkajpjbjafjbkaaEnA
namespace Go.Proofs.Ytkajpjbjafjbkaa
open Go.AI
set_option maxHeartbeats 2000000
set_option linter.unusedSimpArgs false
set_option linter.unusedVariables false
attribute [local simp] wpA wpX RunA RunD runF foot footP bare apart runL step1 gsel_f gsel_t gsel_s res_same res_and1 res_and2 res_and3 res_and4 res_and5 res_and6 res_false res_true res_v res_ptr res_fptr res_osl res_fsl res_esl res_agg res_tup res_fn res_junk res_anyb aPick hk imp_left iteV dstOk guardOk astep astepE AI.ev AI.look AI.put envOf aBox cellsOf allOne allOneA oneA Value.oneCell' Value.cells newObj' aFieldAddr aLoad obj readAt thenA blockA condA retA resA tupA view hot hotC hotR depthV cAgg cInt cBool mkAgg allV aAlloc aBuild fillA writeAt aStore isAggA aField idx aIndexAddr aIndex bnd aSlice aExtract aLen aBuiltin aCall isStatic eqAgg eqTy eqC ev_add ev_sub ev_mul ev_quo ev_rem ev_and ev_or ev_xor ev_andNot ev_shl ev_shr ev_eql ev_neq ev_lss ev_leq ev_gtr ev_geq ev_agg w64 wu32 wu8 ev_not ev_neg Cod.plain RCod.plain argM finM cold coldC coldR goInt intDec boolDec aggDec Weaker heapW lowA lowC Again slDec undef aBuildSlice setRows aAppend rowsOf aMakeSlice aClear aCopy softer_self softer_nil valsOf ev_min2 ev_max2 hotR_set hotR_append take_map_set irow_cold irow_mapM irow_mapMc irow_view irow_viewc irow_hotR irow_ren irow_renc irow_low WeakT heapT thOf ren renC AgainT NextF NextT selfLt natLt0 natLt1 getLastMap fxSz2 fxBy2 fxAg2 fxZe2 fxSl2 fxAr2 fxPl2 fxSz3 fxBy3 fxAg3 fxZe3 fxSl3 fxAr3 fxPl3 fxSz4 fxBy4 fxAg4 fxZe4 fxSl4 fxAr4 fxPl4 fxSz5 fxBy5 fxAg5 fxZe5 fxSl5 fxAr5 fxPl5 fxSz9 fxBy9 fxAg9 fxZe9 fxSl9 fxAr9 fxPl9 fxSz12 fxBy12 fxAg12 fxZe12 fxSl12 fxAr12 fxPl12 fxSz13 fxBy13 fxAg13 fxZe13 fxSl13 fxAr13 fxFi13x0 fxFi13x1 fxPl13 fxSz21 fxBy21 fxAg21 fxZe21 fxSl21 fxAr21 fxPl21 fxSz22 fxBy22 fxAg22 fxZe22 fxSl22 fxAr22 fxPl22 fxSz23 fxBy23 fxAg23 fxZe23 fxSl23 fxAr23 fxPl23 fxSz24 fxBy24 fxAg24 fxZe24 fxSl24 fxAr24 fxPl24 fxSz38 fxBy38 fxAg38 fxZe38 fxSl38 fxAr38 fxFi38x0 fxFi38x1 fxPl38 fxSz39 fxBy39 fxAg39 fxZe39 fxSl39 fxAr39 fxFi39x0 fxFi39x1 fxPl39 fxSz41 fxBy41 fxAg41 fxZe41 fxSl41 fxAr41 fxFi41x0 fxFi41x1 fxFi41x2 fxFi41x3 fxFi41x4 fxFi41x5 fxFi41x6 fxPl41 fxSz42 fxBy42 fxAg42 fxZe42 fxSl42 fxAr42 fxFi42x0 fxFi42x1 fxFi42x2 fxFi42x3 fxFi42x4 fxFi42x5 fxFi42x6 fxPl42 fxSz43 fxBy43 fxAg43 fxZe43 fxSl43 fxAr43 fxFi43x0 fxFi43x1 fxFi43x2 fxFi43x3 fxPl43 fxSz44 fxBy44 fxAg44 fxZe44 fxSl44 fxAr44 fxFi44x0 fxFi44x1 fxFi44x2 fxFi44x3 fxPl44 fxSz45 fxBy45 fxAg45 fxZe45 fxSl45 fxAr45 fxPl45 fxSz57 fxBy57 fxAg57 fxZe57 fxSl57 fxAr57 fxPl57 fxSz68 fxBy68 fxAg68 fxZe68 fxSl68 fxAr68 fxPl68 fxSz72 fxBy72 fxAg72 fxZe72 fxSl72 fxAr72 fxPl72 fxSz73 fxBy73 fxAg73 fxZe73 fxSl73 fxAr73 fxFi73x0 fxPl73 fxSz76 fxBy76 fxAg76 fxZe76 fxSl76 fxAr76 fxPl76 fxSz80 fxBy80 fxAg80 fxZe80 fxSl80 fxAr80 fxPl80 fxSz85 fxBy85 fxAg85 fxZe85 fxSl85 fxAr85 fxPl85 fxEq23 fxEq39 fxEq42 fxEq44 fxCv2x2 fxCv2x3 fxCv2x5 fxCv2x12 fxCv2x21 fxCv2x24 fxCv2x76 fxCv3x2 fxCv3x3 fxCv3x5 fxCv3x12 fxCv3x21 fxCv3x24 fxCv3x76 fxCv5x2 fxCv5x3 fxCv5x5 fxCv5x12 fxCv5x21 fxCv5x24 fxCv5x76 fxCv12x2 fxCv12x3 fxCv12x5 fxCv12x12 fxCv12x21 fxCv12x24 fxCv12x76 fxCv21x2 fxCv21x3 fxCv21x5 fxCv21x12 fxCv21x21 fxCv21x24 fxCv21x76 fxCv24x2 fxCv24x3 fxCv24x5 fxCv24x12 fxCv24x21 fxCv24x24 fxCv24x76 fxCv76x2 fxCv76x3 fxCv76x5 fxCv76x12 fxCv76x21 fxCv76x24 fxCv76x76 fxEb4 fxNb4 fxLt9 fxLn22 fxNe22 fxNn22 fxLn45 fxNe45 fxNn45 fxLn57 fxNe57 fxNn57 fxFn3 fxFb3 fxFn4 fxFb4 fxFn5 fxFb5 fxFn6 fxFb6 fxFn7 fxFb7 fxFn8 fxFb8 fxFn9 fxFb9 fxFn10 fxFb10 fxFn11 fxFb11 fxFn12 fxFb12 fxFn13 fxFb13 fxFn14 fxFb14 fxFn15 fxFb15 fxFn16 fxFb16 fxFn17 fxFb17 fxFn18 fxFb18 fxFn19 fxFb19 fxFn20 fxFb20 fxFn21 fxFb21 fxFn22 fxFb22 fxFn23 fxFb23 fxFn24 fxFb24 fxFn25 fxFb25 fxFn26 fxFb26 fxFn27 fxFb27 fxFn28 fxFb28 fxFn29 fxFb29 fxFn30 fxFb30 fxFn31 fxFb31 fxFn32 fxFb32 fxFn33 fxFb33 fxFn34 fxFb34
attribute [local simp] Entry.eta Entry.cold Entry.mapM Entry.mapMc Entry.view Entry.viewc Entry.hotR Entry.ren Entry.renc Entry.low
structure Cs where
  area : Int
  en : Entry
  many : Int
  want : Int
  deriving DecidableEq
def csDec : Row → Option Cs
  | [.v (.int .i64 x0), .v (.bool x1), .v (.bool x2), .v (.int .i64 x3), .v (.int .i64 x4), .v (.bool x5), .v (.bool x6), .v (.bool x7), .v (.int .i64 x8), .v (.int .i64 x9)] => some ⟨x0, ⟨x1, x2, x3, x4, x5, x6, x7⟩, x8, x9⟩
  | _ => none
def Cs.row (e : Cs) : Row := [.v (.int .i64 e.area), .v (.bool e.en.here), .v (.bool e.en.slot), .v (.int .i64 e.en.at_), .v (.int .i64 e.en.rights), .v (.bool e.en.used), .v (.bool e.en.dirty), .v (.bool e.en.copy), .v (.int .i64 e.many), .v (.int .i64 e.want)]
def rCs : RCod Cs := RCod.plain 10 Cs.row csDec
  (fun e => rfl) (fun _ => rfl) (fun r e h => by
    unfold csDec at h
    split at h
    · simp at h; subst h; rfl
    · cases h)
def Cs.val (e : Cs) : Value := .agg #[.int .i64 e.area, .bool e.en.here, .bool e.en.slot, .int .i64 e.en.at_, .int .i64 e.en.rights, .bool e.en.used, .bool e.en.dirty, .bool e.en.copy, .int .i64 e.many, .int .i64 e.want]
theorem Cs.eta (e : Cs) : Cs.mk e.area e.en e.many e.want = e := rfl
attribute [local simp] Cs.eta
theorem Cs.cold (l : List Cs) : coldR (l.map Cs.row) = l.map Cs.row := by
  induction l with
  | nil => simp [coldR]
  | cons e l ih => simp [coldR, coldC, AI.cold, ih, Cs.row]
theorem Cs.mapM (l : List Cs) : (l.map Cs.row).mapM csDec = some l := mapM_dec rCs l
theorem Cs.mapMc (l : List Cs) : l.mapM (csDec ∘ Cs.row) = some l := mapM_dec' rCs l
theorem Cs.view (H : Heap) (n : Nat) (e : Cs) : List.map (AI.view H n) e.row = e.row := by cases n <;> simp [Cs.row, AI.view]
theorem Cs.viewc (H : Heap) (n : Nat) : List.map (AI.view H n) ∘ Cs.row = Cs.row := by funext e; exact Cs.view H n e
theorem Cs.hotR (l : List Cs) : AI.hotR (l.map Cs.row) = true := by
  induction l with
  | nil => simp [AI.hotR]
  | cons e l ih => simp [AI.hotR, hotC, hot, ih, Cs.row]
theorem Cs.ren (n : Nat) (th : List Nat) (e : Cs) : List.map (AI.ren n th) e.row = e.row := by simp [Cs.row, AI.ren]
theorem Cs.renc (n : Nat) (th : List Nat) : List.map (AI.ren n th) ∘ Cs.row = Cs.row := by funext e; exact Cs.ren n th e
theorem Cs.low (n : Nat) (e : Cs) : e.row.all (lowA n) = true := by simp [Cs.row, lowA]
attribute [local simp] Cs.cold Cs.mapM Cs.mapMc Cs.view Cs.viewc Cs.hotR Cs.ren Cs.renc Cs.low
def noCs : Cs := ⟨0, noEnt, 0, 0⟩

def Cs.chk (c : Cs) : Int :=
  if ((c.area < -1 ∨ 7 < c.area) ∨ c.want < 1) ∨ 7 < c.want then 1
  else if c.en.chk = 0 then (if (c.many < 0 ∨ (¬ c.en.none = (c.many == 0))) ∨ (c.area < 0 ∧ c.en.none = false) then 3 else 0)
  else c.en.chk

theorem csCheck_pure : PureOk Try.prog 19 (argM (cAgg rCs) fun c => finM (some (.v (.int .i64 c.chk)))) := by
  refine pure1 Try.func19 rfl ?_
  rintro c r hr
  simp only [Option.some.injEq] at hr
  subst hr
  refine body_gen ((noOrc_ok.withP check_pure).withP none_pure) fxMix (by kernel_rfl) (by simp [Try.ntmps19]) ?_
  intro C cP cI cN cD
  have cp0 := orcP check_pure (C := C) (by rw [cP]; rfl)
  have cp1 := orcP none_pure (C := C) (by rw [cP]; rfl)
  replace cI : C.inl = fun _ => false := cI
  replace cD : C.dyn = fun _ => [] := cD
  clear cP cN
  simp [Try.ntmps19, Try.results19, cSl, cp0, cp1, cI, cD, rCs, Cs.row, csDec, rEnt, Entry.row, entDec]
  unfold Cs.chk
  repeat' split
  all_goals rfl

/-- what is to be done -/
def Cs.act (c : Cs) : Int :=
  if c.area < 0 ∨ ¬ iand .i64 c.area c.want = c.want then 1
  else if c.en.none = true then 2
  else if c.en.slot = true then 3
  else if ¬ c.en.rights = c.area then 6
  else if (¬ iand .i64 c.want 2 = 0 ∧ c.en.copy = true) ∧ 1 < c.many then 4
  else if ¬ iand .i64 c.want 2 = 0 ∧ c.en.copy = true then 5
  else 0
def Cs.do_ (c : Cs) : Int := if c.chk = 0 then c.act else 0

theorem csDo_pure : PureOk Try.prog 29 (argM (cAgg rCs) fun c => finM (some (.v (.tuple #[.int .i64 c.do_, .int .i64 c.chk])))) := by
  refine pure1 Try.func29 rfl ?_
  rintro c r hr
  simp only [Option.some.injEq] at hr
  subst hr
  refine body_gen ((noOrc_ok.withP csCheck_pure).withP none_pure) fxMix (by kernel_rfl) (by simp [Try.ntmps29]) ?_
  intro C cP cI cN cD
  have cp0 := orcP csCheck_pure (C := C) (by rw [cP]; rfl)
  have cp1 := orcP none_pure (C := C) (by rw [cP]; rfl)
  replace cI : C.inl = fun _ => false := cI
  replace cD : C.dyn = fun _ => [] := cD
  clear cP cN
  simp [Try.ntmps29, Try.results29, cSl, cp0, cp1, cI, cD, rCs, Cs.row, csDec, rEnt, Entry.row, entDec]
  clear cp0 cp1 cI cD 
  unfold Cs.do_ Cs.act
  repeat' split
  all_goals simp_all

/-- what is done -/
def Cs.next (c : Cs) (frame : Int) : Cs :=
  if c.act = 2 then ⟨c.area, ⟨true, false, frame, c.area, false, false, false⟩, 1, c.want⟩
  else if c.act = 3 then { c with en := { c.en with slot := false, here := true, at_ := frame } }
  else if c.act = 4 then { c with en := { c.en with at_ := frame, copy := false, dirty := true }, many := 1 }
  else if c.act = 5 then { c with en := { c.en with copy := false } }
  else if c.act = 6 then { c with en := { c.en with rights := c.area } }
  else c
def Cs.afterC (c : Cs) (frame : Int) : Int := if c.chk = 0 then (if frame < 0 ∨ 64 ≤ frame then 1 else if c.act = 1 then 11 else 0) else c.chk
def Cs.after (c : Cs) (frame : Int) : Cs := if c.afterC frame = 0 then c.next frame else noCs

theorem csAfter_pure : PureOk Try.prog 30 (argM (cAgg rCs) fun c => argM (cInt .i64) fun frame => finM (some (.v (.tuple #[(c.after frame).val, .int .i64 (c.afterC frame)])))) := by
  refine pure2 Try.func30 rfl ?_
  rintro c frame r hr
  simp only [Option.some.injEq] at hr
  subst hr
  refine body_gen (noOrc_ok.withP csDo_pure) fxMix (by kernel_rfl) (by simp [Try.ntmps30]) ?_
  intro C cP cI cN cD
  have cp0 := orcP csDo_pure (C := C) (by rw [cP]; rfl)
  replace cI : C.inl = fun _ => false := cI
  replace cD : C.dyn = fun _ => [] := cD
  clear cP cN
  by_cases h0 : c.chk = 0
  · have hd : c.do_ = c.act := by simp [Cs.do_, h0]
    simp [Try.ntmps30, Try.results30, cSl, cp0, cI, cD, rCs, Cs.row, csDec, rEnt, Entry.row, entDec, h0, hd]
    clear cp0 cI cD 
    have hA : c.after frame = if c.afterC frame = 0 then c.next frame else noCs := rfl
    have hC : c.afterC frame = if frame < 0 ∨ 64 ≤ frame then 1 else if c.act = 1 then 11 else 0 := by simp [Cs.afterC, h0]
    rw [hA, hC]
    unfold Cs.next
    repeat' split
    all_goals simp_all [Cs.val, noCs, noEnt]
  · simp [Try.ntmps30, Try.results30, cSl, cp0, cI, cD, rCs, Cs.row, csDec, rEnt, Entry.row, entDec, h0, Cs.val, Cs.after, Cs.afterC, noCs, noEnt]

def rank (a : Int) : Nat := if a = 2 then 1 else if a = 3 then 3 else if a = 6 then 2 else if a = 4 then 1 else if a = 5 then 1 else 0
theorem rank_le (a : Int) : rank a < 5 := by
  unfold rank
  repeat' split
  all_goals omega
theorem ent_ok {e : Entry} (h : e.chk = 0) : 0 ≤ e.rights ∧ e.rights ≤ 7 ∧ 0 ≤ e.at_ ∧ e.at_ < 64 ∧ (e.here = true → e.slot = false) ∧ (e.here = false → e.dirty = false ∧ e.used = false) ∧ (e.none = true → e.at_ = 0 ∧ e.rights = 0 ∧ e.copy = false) := by
  unfold Entry.chk at h
  split at h
  · simp at h
  · split at h
    · simp at h
    · rename_i h1 h2
      obtain ⟨he, s, a, r, u, d, c⟩ := e
      simp at h1 h2
      refine ⟨by simp; omega, by simp; omega, by simp; omega, by simp; omega, ?_⟩
      cases he <;> cases s <;> cases d <;> cases u <;> simp_all [Entry.none]
theorem ent_of {e : Entry} (h : 0 ≤ e.rights ∧ e.rights ≤ 7 ∧ 0 ≤ e.at_ ∧ e.at_ < 64 ∧ (e.here = true → e.slot = false) ∧ (e.here = false → e.dirty = false ∧ e.used = false) ∧ (e.none = true → e.at_ = 0 ∧ e.rights = 0 ∧ e.copy = false)) : e.chk = 0 := by
  obtain ⟨h1, h2, h3, h4, h5, h6, h7⟩ := h
  unfold Entry.chk
  rw [if_neg (by omega)]
  obtain ⟨he, s, a, r, u, d, c⟩ := e
  cases he <;> cases s <;> cases d <;> cases u <;> simp_all [Entry.none]
theorem cs_ok {c : Cs} (h : c.chk = 0) : -1 ≤ c.area ∧ c.area ≤ 7 ∧ 1 ≤ c.want ∧ c.want ≤ 7 ∧ c.en.chk = 0 ∧ 0 ≤ c.many ∧ (c.en.none = true ↔ c.many = 0) ∧ (c.area < 0 → c.en.none = true) := by
  unfold Cs.chk at h
  split at h
  · simp at h
  · split at h
    · split at h
      · simp at h
      · rename_i h1 h2 h3
        simp only [not_or, not_and] at h3
        refine ⟨by omega, by omega, by omega, by omega, h2, by omega, ?_, ?_⟩
        · have := h3.1.2
          simp at this
          rw [this]; simp
        · intro ha
          have := h3.2 ha
          simpa using this
    · rename_i h1 h2; exact absurd h h2
theorem cs_of {c : Cs} (h : -1 ≤ c.area ∧ c.area ≤ 7 ∧ 1 ≤ c.want ∧ c.want ≤ 7 ∧ c.en.chk = 0 ∧ 0 ≤ c.many ∧ (c.en.none = true ↔ c.many = 0) ∧ (c.area < 0 → c.en.none = true)) : c.chk = 0 := by
  obtain ⟨h1, h2, h3, h4, h5, h6, h7, h8⟩ := h
  unfold Cs.chk
  rw [if_neg (by omega), if_pos h5, if_neg]
  simp only [not_or, not_and]
  refine ⟨⟨by omega, ?_⟩, fun ha => by simp [h8 ha]⟩
  cases hn : c.en.none
  · have : ¬ c.many = 0 := fun hm => by simp [h7.2 hm] at hn
    simp [this]
  · simp [h7.1 hn]

theorem next_ok {c : Cs} {f : Int} (h : c.chk = 0) (hf : 0 ≤ f) (hf2 : f < 64) (h0 : ¬ c.act = 0) (h1 : ¬ c.act = 1) : (c.next f).chk = 0 ∧ rank (c.next f).act < rank c.act := by
  obtain ⟨a1, a2, a3, a4, a5, a6, a7, a8⟩ := cs_ok h
  obtain ⟨b1, b2, b3, b4, b5, b6, b7⟩ := ent_ok a5
  obtain ⟨area, ⟨he, sl, at_, ri, us, di, co⟩, many, want⟩ := c
  simp only at a1 a2 a3 a4 a5 a6 a7 a8 b1 b2 b3 b4 b5 b6 b7
  unfold Cs.act at h0 h1
  simp only at h0 h1
  split at h0
  · simp_all
  rename_i q1
  rw [if_neg q1] at h1
  have hnn : 0 ≤ area := by omega
  cases he <;> cases sl
  · -- Zero
    have e : Cs.act ⟨area, ⟨false, false, at_, ri, us, di, co⟩, many, want⟩ = 2 := by simp [Cs.act, q1, Entry.none]
    simp only [Cs.next, e]
    refine ⟨cs_of ?_, ?_⟩
    · simp [Entry.none]
      refine ⟨a1, a2, a3, a4, ent_of ?_, hnn⟩
      simp [Entry.none]; omega
    · simp [Cs.act, q1, Entry.none, rank]
  · have e : Cs.act ⟨area, ⟨false, true, at_, ri, us, di, co⟩, many, want⟩ = 3 := by simp [Cs.act, q1, Entry.none]
    have hm : ¬ many = 0 := fun hm => by have := a7.2 hm; simp [Entry.none] at this
    simp only [Cs.next, e]
    refine ⟨cs_of ?_, ?_⟩
    · simp [Entry.none]
      refine ⟨a1, a2, a3, a4, ent_of ?_, a6, hm, hnn⟩
      simp [Entry.none]; omega
    · simp [Cs.act, q1, Entry.none, rank]
      repeat' split
      all_goals omega
  · have hm : ¬ many = 0 := fun hm => by have := a7.2 hm; simp [Entry.none] at this
    simp [Entry.none] at h0 h1
    by_cases hr : ri = area
    · subst hr
      simp only [if_true] at h0 h1
      split at h0
      · rename_i w
        have e : Cs.act ⟨ri, ⟨true, false, at_, ri, us, di, co⟩, many, want⟩ = 4 := by simp [Cs.act, q1, Entry.none, w]
        simp only [Cs.next, e]
        refine ⟨cs_of ?_, ?_⟩
        · simp [Entry.none]
          refine ⟨a1, a2, a3, a4, ent_of ?_, hnn⟩
          simp [Entry.none]; omega
        · simp [Cs.act, q1, Entry.none, rank]
      · rename_i w
        split at h0
        · rename_i w2
          have e : Cs.act ⟨ri, ⟨true, false, at_, ri, us, di, co⟩, many, want⟩ = 5 := by
            simp only [Cs.act, q1, Entry.none, w2, if_false]
            simp [w2]
            exact Classical.byContradiction fun h => w ⟨w2, by omega⟩
          simp only [Cs.next, e]
          refine ⟨cs_of ?_, ?_⟩
          · simp [Entry.none]
            refine ⟨a1, a2, a3, a4, ent_of ?_, a6, hm, hnn⟩
            simp [Entry.none]; omega
          · simp [Cs.act, q1, Entry.none, rank]
        · exact absurd rfl h0
    · have e : Cs.act ⟨area, ⟨true, false, at_, ri, us, di, co⟩, many, want⟩ = 6 := by simp [Cs.act, q1, Entry.none, hr]
      simp only [Cs.next, e]
      refine ⟨cs_of ?_, ?_⟩
      · simp [Entry.none]
        refine ⟨a1, a2, a3, a4, ent_of ?_, a6, hm, hnn⟩
        simp [Entry.none]; omega
      · simp [Cs.act, q1, Entry.none, rank]
        repeat' split
        all_goals omega
  · simp at b5

/-- fault.Steps -/
def stepsF : Nat → Cs → Int → List Int × Cs
  | 0, c, _ => ([], c)
  | n + 1, c, f => if c.act = 0 ∨ c.act = 1 then ([c.act], c) else (c.act :: (stepsF n (c.next f) f).1, (stepsF n (c.next f) f).2)
def stepsC (c : Cs) (f : Int) : Int := if c.chk = 0 then (if f < 0 ∨ 64 ≤ f then 1 else 0) else c.chk
def stepsA (c : Cs) (f : Int) : AVal := if stepsC c f = 0 then .tup [.fsl true 1 ((stepsF 5 c f).1.map (irow .i64)), .v (stepsF 5 c f).2.val, .v (.int .i64 0)] else .v (.tuple #[.slice none 0 0, noCs.val, .int .i64 (stepsC c f)])

theorem csSteps_pure : PureOk Try.prog 17 (argM (cAgg rCs) fun c => argM (cInt .i64) fun frame => finM (some (stepsA c frame))) := by
  refine pure2 Try.func17 rfl ?_
  rintro c frame r hr
  simp only [Option.some.injEq] at hr
  subst hr
  refine body_gen (((noOrc_ok.withP csDo_pure).withP csAfter_pure).withP csCheck_pure) fxMix (by kernel_rfl) (by simp [Try.ntmps17]) ?_
  intro C cP cI cN cD
  have cp0 := orcP csDo_pure (C := C) (by rw [cP]; rfl)
  have cp1 := orcP csAfter_pure (C := C) (by rw [cP]; rfl)
  have cp2 := orcP csCheck_pure (C := C) (by rw [cP]; rfl)
  replace cI : C.inl = fun _ => false := cI
  replace cD : C.dyn = fun _ => [] := cD
  clear cP cN
  unfold stepsA stepsC
  generalize hR : stepsF 5 c frame = R
  by_cases h0 : c.chk = 0
  · by_cases hf : frame < 0 ∨ 64 ≤ frame
    · simp [Try.ntmps17, Try.results17, cSl, cp0, cp1, cp2, cI, cD, rCs, Cs.row, csDec, h0, hf, Cs.val, noCs, noEnt]
    · simp [Try.ntmps17, Try.results17, cSl, cp0, cp1, cp2, cI, cD, rCs, Cs.row, csDec, h0, hf]
      refine loop_ren (σ := {p : Nat × List Int × Cs // p.2.2.chk = 0 ∧ rank p.2.2.act < p.1 ∧ p.1 + p.2.1.length = 5 ∧ (p.2.1 ++ (stepsF p.1 p.2.2 frame).1, (stepsF p.1 p.2.2 frame).2) = R}) (fun p => ([(1, .v (.int .i64 frame)), (2, .ptr 0 10 0 0), (5, .ptr 1 10 0 0), (8, ownA 2 1 (p.val.2.1.map (irow .i64)))], [some (10, [p.val.2.2.row]), some (10, [noCs.row])] ++ ownT 1 (p.val.2.1.map (irow .i64)))) (fun p => p.val.1) ⟨(5, [], c), h0, rank_le _, rfl, by simp [hR]⟩ [0, 1] ?_ ?_
      · simp [ownA, ownT, Cs.row, noCs, noEnt]
      · rintro ⟨⟨n, out, x⟩, q1, q2, q3, q4⟩
        simp only at q1 q2 q3 q4
        obtain ⟨n, rfl⟩ : ∃ m, n = m + 1 := ⟨n - 1, by omega⟩
        have hd : x.do_ = x.act := by simp [Cs.do_, q1]
        simp only [stepsF] at q4
        by_cases ha : x.act = 0 ∨ x.act = 1
        · rw [if_pos ha] at q4
          by_cases ho : out = []
          · subst ho
            simp [Try.ntmps17, Try.results17, cSl, cp0, cp1, cp2, cI, cD, rCs, Cs.row, csDec, ownA_nil, ownT_nil, hd, ha, noCs, noEnt, irow, Cs.val, ← q4]
          · have e1 : out.map (irow .i64) ≠ [] := by simpa using ho
            have e3 : ¬ (out.length + 1 ≤ out.length) := by omega
            have e4 : out.length ≤ 4294967295 := by omega
            simp [Try.ntmps17, Try.results17, cSl, cp0, cp1, cp2, cI, cD, rCs, Cs.row, csDec, ownA_cons e1, ownT_cons e1, hd, ha, noCs, noEnt, Cs.val, e3, e4, ← q4]
            rw [List.take_of_length_le (by simp)]; rfl
        · rw [if_neg ha] at q4
          obtain ⟨r1, r2⟩ := next_ok (f := frame) q1 (by omega) (by omega) (by omega) (by omega)
          have haf : x.afterC frame = 0 := by simp [Cs.afterC, q1, hf]; omega
          have hax : x.after frame = x.next frame := by simp [Cs.after, haf]
          by_cases ho : out = []
          · subst ho
            simp [Try.ntmps17, Try.results17, cSl, cp0, cp1, cp2, cI, cD, rCs, Cs.row, csDec, ownA_nil, ownT_nil, hd, ha, noCs, noEnt, irow, Cs.val, haf, hax]
            exact ⟨n, by omega, [x.act], x.next frame, ⟨r1, by omega, by simpa using q3, by simpa using q4⟩, [0, 1, 3], by simp [ownT], by simp [ownA, ownT, irow, Cs.row]⟩
          · have e1 : out.map (irow .i64) ≠ [] := by simpa using ho
            have e3 : ¬ (out.length + 1 ≤ out.length) := by omega
            have e4 : out.length ≤ 4294967295 := by omega
            simp [Try.ntmps17, Try.results17, cSl, cp0, cp1, cp2, cI, cD, rCs, Cs.row, csDec, ownA_cons e1, ownT_cons e1, hd, ha, noCs, noEnt, Cs.val, haf, hax, e3, e4]
            exact ⟨n, by omega, out ++ [x.act], x.next frame, ⟨r1, by omega, by simp; omega, by simpa using q4⟩, [0, 1, 4], by simp [ownT], by simp [ownA, ownT, irow, Cs.row]⟩
  · simp [Try.ntmps17, Try.results17, cSl, cp0, cp1, cp2, cI, cD, rCs, Cs.row, csDec, h0, Cs.val, noCs, noEnt]
end Go.Proofs.Ytkajpjbjafjbkaa
